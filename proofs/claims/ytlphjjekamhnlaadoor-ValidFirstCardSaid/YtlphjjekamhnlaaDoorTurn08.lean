/- Colors and ranks turned about: the plain law of attacks. No walk. -/
import Derived.Test.YtlphjjekamhnlaaDoorLawX
namespace Go.Proofs.YtlphjjekamhnlaaDoor
open Go.RowKit

/-- The square of the rank turned about. -/
def flp (a : Nat) : Nat := 8 * (7 - a / 8) + a % 8
theorem flp_lt (a : Nat) (h : a < 64) : flp a < 64 := by unfold flp; omega
theorem flp_flp (a : Nat) (h : a < 64) : flp (flp a) = a := by unfold flp; omega
theorem flp_inj {a b : Nat} (ha : a < 64) (hb : b < 64) (h : flp a = flp b) : a = b := by rw [← flp_flp a ha, h, flp_flp b hb]
theorem flp_div (a : Nat) (h : a < 64) : ((flp a : Nat) : Int) / 8 = 7 - (a : Int) / 8 := by unfold flp; omega
theorem flp_mod (a : Nat) : ((flp a : Nat) : Int) % 8 = (a : Int) % 8 := by unfold flp; omega
theorem flp_tab : ∀ a : Fin 64, bits .xor .i64 ((a.val : Nat) : Int) 56 = ((flp a.val : Nat) : Int) := by decide +kernel
theorem flp_xor (a : Nat) (h : a < 64) : bits .xor .i64 (a : Int) 56 = ((flp a : Nat) : Int) := flp_tab ⟨a, h⟩

theorem up_flp (a b : Nat) (ha : a < 64) (hb : b < 64) : D.up (flp a) (flp b) = -D.up a b := by unfold D.up; rw [flp_div a ha, flp_div b hb]; omega
theorem aside_flp (a b : Nat) : D.aside (flp a) (flp b) = D.aside a b := by unfold D.aside; rw [flp_mod, flp_mod]
theorem straight_flp (a b : Nat) (ha : a < 64) (hb : b < 64) : D.straight (flp a) (flp b) = D.straight a b := by
  unfold D.straight
  rw [up_flp a b ha hb, aside_flp]
  congr 1
  rw [Bool.eq_iff_iff]; simp
theorem across_flp (a b : Nat) (ha : a < 64) (hb : b < 64) : D.across (flp a) (flp b) = D.across a b := by
  unfold D.across
  rw [up_flp a b ha hb, aside_flp, abs_neg]
theorem beside_flp (a b : Nat) (ha : a < 64) (hb : b < 64) : D.beside (flp a : Nat) (flp b : Nat) = D.beside a b := by
  unfold D.beside
  rw [flp_div a ha, flp_div b hb, flp_mod, flp_mod, show (7 - (a : Int) / 8 - (7 - (b : Int) / 8)) = -((a : Int) / 8 - (b : Int) / 8) by omega, abs_neg]
  congr 1
  rw [decide_eq_decide]
  constructor
  · intro h e
    have : a = b := by omega
    exact h (by rw [this])
  · intro h e
    have : flp a = flp b := by omega
    have := flp_inj ha hb this
    exact h (by rw [this])
theorem inRay_flp (a d b : Nat) (hd : d < 8) (ha : a < 64) (hb : b < 64) : inRay (flp a) ((12 - d) % 8) (flp b) = inRay a d b := by
  have e1 : flp a / 8 = 7 - a / 8 := by unfold flp; omega
  have e2 : flp b / 8 = 7 - b / 8 := by unfold flp; omega
  have e3 : flp a % 8 = a % 8 := by unfold flp; omega
  have e4 : flp b % 8 = b % 8 := by unfold flp; omega
  rcases (show d = 0 ∨ d = 1 ∨ d = 2 ∨ d = 3 ∨ d = 4 ∨ d = 5 ∨ d = 6 ∨ d = 7 by omega) with rfl | rfl | rfl | rfl | rfl | rfl | rfl | rfl <;> (unfold inRay; simp only [e1, e2, e3, e4]; rw [Bool.eq_iff_iff]; simp <;> omega)
theorem btw_flp (a b j : Nat) (ha : a < 64) (hb : b < 64) (hj : j < 64) (h : (D.straight a b || D.across a b) = true) : btw (flp a) (flp b) (flp j) = btw a b j := by
  obtain ⟨d, hd, hr⟩ := line_dir a b ha hb h
  rw [btw_ray a d b j ha hd hb hj hr, btw_ray (flp a) ((12 - d) % 8) (flp b) (flp j) (flp_lt a ha) (by omega) (flp_lt b hb) (flp_lt j hj) (by rw [inRay_flp a d b hd ha hb]; exact hr), inRay_flp a d j hd ha hj, inRay_flp j d b hd hj hb]
theorem free_flp {x y : BitVec 64} (hxy : ∀ j, j < 64 → bit y (flp j) = bit x j) (a b : Nat) (ha : a < 64) (hb : b < 64) (h : (D.straight a b || D.across a b) = true) : free y (flp a) (flp b) = free x a b := by
  rw [Bool.eq_iff_iff, free_iff, free_iff]
  constructor
  · intro hf j hj hbt
    rw [← hxy j hj]
    exact hf (flp j) (flp_lt j hj) (by rw [btw_flp a b j ha hb hj h]; exact hbt)
  · intro hf j hj hbt
    have e := flp_flp j hj
    have hj2 := flp_lt j hj
    rw [← e] at hbt ⊢
    rw [btw_flp a b _ ha hb hj2 h] at hbt
    rw [hxy _ hj2]
    exact hf _ hj2 hbt
theorem hitsK_flp (k color : Int) {x y : BitVec 64} (hxy : ∀ j, j < 64 → bit y (flp j) = bit x j) (a b : Nat) (hcol : color = 0 ∨ color = 1) (ha : a < 64) (hb : b < 64) : D.hitsK k (1 - color) y (flp a) (flp b) = D.hitsK k color x a b := by
  unfold D.hitsK
  rw [straight_flp a b ha hb, across_flp a b ha hb, beside_flp a b ha hb, and_clr (s := D.straight a b) (fun h => free_flp hxy a b ha hb (by rw [h]; rfl)), and_clr (s := D.across a b) (fun h => free_flp hxy a b ha hb (by rw [h, Bool.or_true])), and_clr (s := D.straight a b || D.across a b) (fun h => free_flp hxy a b ha hb h), up_flp a b ha hb, aside_flp, abs_neg]
  rcases hcol with rfl | rfl
  · have e : (-D.up a b == -1) = (D.up a b == 1) := by rw [Bool.eq_iff_iff]; simp
    rw [show ((1 : Int) - 0) = 1 by rfl, if_neg (show ¬ ((1 : Int) = 0) by decide), if_pos rfl, e]
  · have e : (-D.up a b == 1) = (D.up a b == -1) := by rw [Bool.eq_iff_iff]; simp; omega
    rw [show ((1 : Int) - 1) = 0 by rfl, if_neg (show ¬ ((1 : Int) = 0) by decide), if_pos rfl, e]

/-- A piece turned about, as the law does it. -/
def tpc (x : Int) : Int := if x = 0 then 0 else (x + 8) % 16
/-- What the law's loop has laid after k squares. -/
def turnTo (c : Nat → Int) : Nat → Nat → Int
  | 0 => c
  | k + 1 => upd (turnTo c k) (1 + flp k) (tpc (c (1 + k)))
def turnC (c : Nat → Int) : Nat → Int := upd (turnTo c 64) 78 (1 - c 78)
theorem turnTo_sq (c : Nat → Int) (j : Nat) (hj : j < 64) : ∀ k, k ≤ 64 → turnTo c k (1 + flp j) = if j < k then tpc (c (1 + j)) else c (1 + flp j)
  | 0, _ => by simp [turnTo]
  | k + 1, hk => by
    have ih := turnTo_sq c j hj k (by omega)
    rw [turnTo]
    by_cases e : j = k
    · subst e; rw [upd_same, if_pos (by omega)]
    · have hne : flp j ≠ flp k := fun h => e (flp_inj hj (by omega) h)
      rw [upd_other _ _ _ _ (by omega), ih]
      by_cases h : j < k
      · rw [if_pos h, if_pos (by omega)]
      · rw [if_neg h, if_neg (by omega)]
theorem turnTo_out (c : Nat → Int) (i : Nat) (hi : i = 0 ∨ 64 < i) : ∀ k, k ≤ 64 → turnTo c k i = c i
  | 0, _ => rfl
  | k + 1, hk => by
    have := flp_lt k (by omega)
    rw [turnTo, upd_other _ _ _ _ (by omega), turnTo_out c i hi k (by omega)]
theorem turnC_sq (c : Nat → Int) (j : Nat) (hj : j < 64) : turnC c (1 + flp j) = tpc (c (1 + j)) := by
  have := flp_lt j hj
  unfold turnC
  rw [upd_other _ _ _ _ (by omega), turnTo_sq c j hj 64 (by omega), if_pos hj]
theorem turnC_0 (c : Nat → Int) : turnC c 0 = c 0 := by
  unfold turnC
  rw [upd_other _ _ _ _ (by omega), turnTo_out c 0 (.inl rfl) 64 (by omega)]
theorem tpc_bd (x : Int) : 0 ≤ tpc x ∧ tpc x ≤ 255 := by unfold tpc; split <;> omega
theorem turnTo_bd (c : Nat → Int) (hc : BdOk c) : ∀ k, k ≤ 64 → BdOk (turnTo c k)
  | 0, _ => hc
  | k + 1, hk => by
    obtain ⟨y0, y1⟩ := tpc_bd (c (1 + k))
    exact bdOk_upd (turnTo_bd c hc k (by omega)) _ _ y0 y1
theorem turnC_bd (c : Nat → Int) (hc : BdOk c) : BdOk (turnC c) := fun s hs => by
  have := turnTo_bd c hc 64 (by omega) s hs
  unfold turnC
  rw [upd_other _ _ _ _ (by omega)]
  exact this

theorem tpc_kind (x : Int) (h0 : 0 ≤ x) (h1 : x ≤ 255) : okL x = true → P.kind (tpc x) = P.kind x := all8 (fun x => okL x = true → P.kind (tpc x) = P.kind x) (by decide +kernel) x h0 h1
theorem tpc_isB (x : Int) (h0 : 0 ≤ x) (h1 : x ≤ 255) : okL x = true → P.isB (tpc x) = P.isB x := all8 (fun x => okL x = true → P.isB (tpc x) = P.isB x) (by decide +kernel) x h0 h1
theorem tpc_color (x : Int) (h0 : 0 ≤ x) (h1 : x ≤ 255) : P.isB x = true → D.color (tpc x) = 1 - D.color x := all8 (fun x => P.isB x = true → D.color (tpc x) = 1 - D.color x) (by decide +kernel) x h0 h1

section
variable {c : Nat → Int} (hc : BdOk c) (hl : lawB c = true)
include hc hl
theorem all_turn (j : Nat) (hj : j < 64) : bit (S.all (turnC c)) (flp j) = bit (S.all c) j := by
  obtain ⟨x0, x1⟩ := hc j hj
  rw [bit_all _ _ (flp_lt j hj), bit_all c j hj, turnC_sq c j hj, tpc_isB _ x0 x1 ((lawB_iff c).1 hl j hj)]
theorem hits_turn (a b : Nat) (ha : a < 64) (hb : b < 64) : D.hits (turnC c) (flp a) (flp b) = D.hits c a b := by
  obtain ⟨x0, x1⟩ := hc a ha
  rw [hits_K _ _ _ (turnC_bd c hc) (flp_lt a ha) (flp_lt b hb), hits_K c a b hc ha hb, turnC_sq c a ha, tpc_kind _ x0 x1 ((lawB_iff c).1 hl a ha)]
  cases hB : P.isB (c (1 + a))
  · rw [isB_false _ hB]; rfl
  · obtain ⟨h1, h2, h3⟩ := isB_true _ x0 x1 hB
    rw [color_eq _ hB] at h3
    rw [tpc_color _ x0 x1 hB]
    exact hitsK_flp _ _ (fun j hj => all_turn hc hl j hj) a b h3 ha hb
theorem from_turn (s a : Nat) (hs : s < 64) (ha : a < 64) : bit (K.from (turnC c) (flp s : Nat)) (flp a) = bit (K.from c (s : Nat)) a := by
  rw [bit_from _ _ _ (turnC_bd c hc) (flp_lt s hs) (flp_lt a ha), bit_from c s a hc hs ha, hits_turn hc hl s a hs ha]
end


def cntTo (c : Nat → Int) (v : Int) : Nat → Nat
  | 0 => 0
  | k + 1 => if c (1 + k) == v then cntTo c v k + 1 else cntTo c v k
theorem cntTo_le (c : Nat → Int) (v : Int) : ∀ k, cntTo c v k ≤ k
  | 0 => Nat.le_refl _
  | k + 1 => by
    have := cntTo_le c v k
    rw [cntTo]; split <;> omega
theorem cntTo_mono (c : Nat → Int) (v : Int) (k : Nat) : ∀ n, cntTo c v k ≤ cntTo c v (k + n)
  | 0 => Nat.le_refl _
  | n + 1 => by
    have := cntTo_mono c v k n
    rw [← Nat.add_assoc, cntTo]; split <;> omega
theorem cnt_one (c : Nat → Int) (v : Int) (h : cntTo c v 64 ≤ 1) (i j : Nat) (hij : i < j) (hj : j < 64) (hi : c (1 + i) = v) (hjv : c (1 + j) = v) : False := by
  have h1 : cntTo c v (i + 1) = cntTo c v i + 1 := by rw [cntTo, hi]; simp
  have h2 : cntTo c v (j + 1) = cntTo c v j + 1 := by rw [cntTo, hjv]; simp
  have h3 := cntTo_mono c v (i + 1) (j - (i + 1))
  have h4 := cntTo_mono c v (j + 1) (64 - (j + 1))
  rw [show i + 1 + (j - (i + 1)) = j by omega] at h3
  rw [show j + 1 + (64 - (j + 1)) = 64 by omega] at h4
  omega

/-- At most one king of a color. -/
def OneK (c : Nat → Int) (color : Int) : Prop := ∀ i j, i < 64 → j < 64 → D.is c i color 6 = true → D.is c j color 6 = true → i = j
theorem king_num (x : Int) (h0 : 0 ≤ x) (h1 : x ≤ 255) : ((P.kind x == 6 && D.color x == 0) = (x == 6)) ∧ ((P.kind x == 6 && D.color x == 1) = (x == 14)) :=
  all8 (fun x => ((P.kind x == 6 && D.color x == 0) = (x == 6)) ∧ ((P.kind x == 6 && D.color x == 1) = (x == 14))) (by decide +kernel) x h0 h1
theorem oneK_of (c : Nat → Int) (color : Int) (v : Int) (hc : BdOk c) (h : (color = 0 ∧ v = 6) ∨ (color = 1 ∧ v = 14)) (h1 : cntTo c v 64 ≤ 1) : OneK c color := by
  have key : ∀ i, i < 64 → D.is c i color 6 = true → c (1 + i) = v := fun i hi hk => by
    obtain ⟨x0, x1⟩ := hc i hi
    obtain ⟨k1, k2⟩ := king_num _ x0 x1
    unfold D.is at hk
    rcases h with ⟨rfl, rfl⟩ | ⟨rfl, rfl⟩
    · rw [k1] at hk; simpa using hk
    · rw [k2] at hk; simpa using hk
  intro i j hi hj e1 e2
  rcases Nat.lt_trichotomy i j with h2 | h2 | h2
  · exact (cnt_one c v h1 i j h2 hj (key i hi e1) (key j hj e2)).elim
  · exact h2
  · exact (cnt_one c v h1 j i h2 hi (key j hj e2) (key i hi e1)).elim

theorem find_of (c : Nat → Int) (color : Int) (h1 : OneK c color) (n : Nat) (hn : n < 64) (h : D.is c n color 6 = true) : D.find c color 6 = n := by
  unfold D.find
  rcases dfirst_spec (fun s => D.is c s color 6) 64 0 with ⟨_, hno⟩ | ⟨j, _, h2, h3, h4, _⟩
  · have := hno n (by omega) (by omega)
    rw [h] at this; cases this
  · rw [h3, h1 j n (by omega) hn h4 h]
theorem find_no (c : Nat → Int) (color : Int) (h : ∀ n, n < 64 → D.is c n color 6 = false) : D.find c color 6 = -1 := by
  unfold D.find
  rcases dfirst_spec (fun s => D.is c s color 6) 64 0 with ⟨e, _⟩ | ⟨j, _, h2, h3, h4, _⟩
  · exact e
  · rw [h j (by omega)] at h4; cases h4
theorem find_cases (c : Nat → Int) (color : Int) : (∀ n, n < 64 → D.is c n color 6 = false) ∨ ∃ n, n < 64 ∧ D.is c n color 6 = true := by
  rcases dfirst_spec (fun s => D.is c s color 6) 64 0 with ⟨_, hno⟩ | ⟨j, _, h2, _, h4, _⟩
  · exact .inl fun n hn => hno n (by omega) (by omega)
  · exact .inr ⟨j, by omega, h4⟩

section
variable {c : Nat → Int} (hc : BdOk c) (hl : lawB c = true)
include hc hl
theorem is_turn (color kind : Int) (hk : 1 ≤ kind) (j : Nat) (hj : j < 64) : D.is (turnC c) (flp j) (1 - color) kind = D.is c j color kind := by
  obtain ⟨x0, x1⟩ := hc j hj
  unfold D.is
  rw [turnC_sq c j hj, tpc_kind _ x0 x1 ((lawB_iff c).1 hl j hj)]
  cases hB : P.isB (c (1 + j))
  · rw [isB_false _ hB, show ((0 : Int) == kind) = false by simp; omega]; rfl
  · rw [tpc_color _ x0 x1 hB]
    congr 1
    rw [Bool.eq_iff_iff]; simp <;> omega
theorem oneK_turn (color : Int) (h1 : OneK c color) : OneK (turnC c) (1 - color) := fun i j hi hj e1 e2 => by
  have a1 := is_turn hc hl color 6 (by omega) (flp i) (flp_lt i hi)
  have a2 := is_turn hc hl color 6 (by omega) (flp j) (flp_lt j hj)
  rw [flp_flp i hi] at a1
  rw [flp_flp j hj] at a2
  have := h1 _ _ (flp_lt i hi) (flp_lt j hj) (by rw [← a1]; exact e1) (by rw [← a2]; exact e2)
  exact flp_inj hi hj this
theorem near_turn (color : Int) (hcol : color = 0 ∨ color = 1) (n : Nat) (hn : n < 64) : D.near (turnC c) (1 - color) ((flp n : Nat) : Int) 0 64 = D.near c color n 0 64 := by
  have o1 : K.oc color = 1 - color := by unfold K.oc; omega
  have o2 : K.oc (1 - color) = 1 - (1 - color) := by unfold K.oc; omega
  rw [Bool.eq_iff_iff, near_spec', near_spec', o1, o2]
  constructor
  · rintro ⟨j, _, hj, e1, e2⟩
    have hj : j < 64 := by omega
    have a1 := is_turn hc hl (1 - color) 6 (by omega) (flp j) (flp_lt j hj)
    have a2 := beside_flp (flp j) n (flp_lt j hj) hn
    rw [flp_flp j hj] at a1 a2
    exact ⟨flp j, by omega, by have := flp_lt j hj; omega, by rw [← a1]; exact e1, by rw [← a2]; exact e2⟩
  · rintro ⟨j, _, hj, e1, e2⟩
    have hj : j < 64 := by omega
    exact ⟨flp j, by omega, by have := flp_lt j hj; omega, by rw [is_turn hc hl (1 - color) 6 (by omega) j hj]; exact e1, by rw [beside_flp j n hj hn]; exact e2⟩
theorem by_turn (color : Int) (n a : Nat) (hn : n < 64) (ha : a < 64) : bit (D.by' (turnC c) ((flp n : Nat) : Int) (1 - color)) (flp a) = bit (D.by' c n color) a := by
  unfold D.by'
  have := flp_lt n hn
  obtain ⟨x0, x1⟩ := hc a ha
  rw [if_pos (by unfold K.there; simp; omega), if_pos (by unfold K.there; simp; omega), Int.toNat_natCast, Int.toNat_natCast, bit_byTo _ _ _ _ (flp_lt a ha) 64 (by omega), bit_byTo c n color a ha 64 (by omega), hits_turn hc hl a n ha hn, turnC_sq c a ha, tpc_kind _ x0 x1 ((lawB_iff c).1 hl a ha)]
  have := flp_lt a ha
  rw [decide_eq_true ha, decide_eq_true this]
  cases hB : P.isB (c (1 + a))
  · rw [isB_false _ hB]; rfl
  · rw [tpc_color _ x0 x1 hB]
    have e : (1 - D.color (c (1 + a)) == 1 - color) = (D.color (c (1 + a)) == color) := by rw [Bool.eq_iff_iff]; simp <;> omega
    rw [e]
theorem byN_turn (color : Int) (n : Nat) (hn : n < 64) : (U (D.by' (turnC c) ((flp n : Nat) : Int) (1 - color)) != 0) = (U (D.by' c n color) != 0) := by
  rw [U_ne, U_ne, decide_eq_decide]
  constructor
  · intro h e
    obtain ⟨j, hj, hb⟩ := some_of h
    have a1 := by_turn hc hl color n (flp j) hn (flp_lt j hj)
    rw [flp_flp j hj, hb, e, bit_zero] at a1
    cases a1
  · intro h e
    obtain ⟨j, hj, hb⟩ := some_of h
    have a1 := by_turn hc hl color n j hn hj
    rw [hb, e, bit_zero] at a1
    cases a1
theorem check_turn (color : Int) (hcol : color = 0 ∨ color = 1) (h7 : c 0 ≠ 7) (h1 : OneK c color) : D.check (turnC c) (1 - color) = D.check c color := by
  have o1 : K.oc color = 1 - color := by unfold K.oc; omega
  have o2 : K.oc (1 - color) = 1 - (1 - color) := by unfold K.oc; omega
  have hr : D.royal (turnC c 0) (1 - color) = D.royal (c 0) color := by
    rw [turnC_0]
    unfold D.royal
    rw [decide_eq_true (show color < 2 by omega), decide_eq_true (show 1 - color < 2 by omega), decide_eq_true (show c 0 ≠ 7 from h7)]
    rfl
  unfold D.check
  rw [decide_eq_true (show color ≤ 1 by omega), decide_eq_true (show 1 - color ≤ 1 by omega)]
  unfold D.king
  rw [hr, turnC_0]
  rcases find_cases c color with hno | ⟨n, hn, hk⟩
  · have f1 := find_no c color hno
    have f2 := find_no (turnC c) (1 - color) fun j hj => by
      have a1 := is_turn hc hl color 6 (by omega) (flp j) (flp_lt j hj)
      rw [flp_flp j hj] at a1
      rw [a1]; exact hno _ (flp_lt j hj)
    rw [f1, f2]
    simp
  · have f1 := find_of c color h1 n hn hk
    have f2 := find_of (turnC c) (1 - color) (oneK_turn hc hl color h1) (flp n) (flp_lt n hn) (by rw [is_turn hc hl color 6 (by omega) n hn]; exact hk)
    rw [f1, f2, near_turn hc hl color hcol n hn, o1, o2]
    have d1 : decide (((flp n : Nat) : Int) < 0) = false := by simp
    have d2 : decide ((n : Int) < 0) = false := by simp
    rw [d1, d2]
    cases D.royal (c 0) color
    · rfl
    · cases (c 0 == 3 && D.near c color n 0 64)
      · have b1 := byN_turn hc hl (1 - color) n hn
        have z1 : decide ((0 : Int) ≤ ((flp n : Nat) : Int)) = true := by simp
        have z2 : decide ((0 : Int) ≤ (n : Int)) = true := by simp
        simp only [Bool.not_true, Bool.or_false, Bool.false_eq_true, if_false]
        rw [z1, z2, b1]
      · rfl
end

end Go.Proofs.YtlphjjekamhnlaaDoor
