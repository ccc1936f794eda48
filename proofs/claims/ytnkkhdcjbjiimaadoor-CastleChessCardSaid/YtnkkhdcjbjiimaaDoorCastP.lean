/- Castling, in plain Lean: what the code tells is what the document tells. -/
import Derived.Test.YtnkkhdcjbjiimaaDoorCastH
import Derived.Test.YtnkkhdcjbjiimaaDoorRef14
import Derived.Test.YtnkkhdcjbjiimaaDoorCastV
namespace Go.Proofs.YtnkkhdcjbjiimaaDoor
open Go.RowKit Go.Sort

namespace T
theorem seg_all (a b : Nat) (P : Nat → Bool) (ha : a < 64) (hb : b < 64) : ((seg a b).all fun x => P x.val) = true ↔ ∀ x : Nat, min a b ≤ x → x ≤ max a b → P x = true := by
  unfold seg
  rw [List.all_eq_true]
  constructor
  · intro h x h1 h2
    have := h (sq x) (List.mem_map.2 ⟨x - min a b, List.mem_range.2 (by omega), by rw [Nat.sub_add_cancel h1]⟩)
    rwa [sq_val x (by omega)] at this
  · intro h x hx
    obtain ⟨i, hi, rfl⟩ := List.mem_map.1 hx
    have hi := List.mem_range.1 hi
    show P (sq (i + min a b)).val = true
    rw [sq_val _ (by omega)]
    exact h _ (by omega) (by omega)
theorem within_iff (s a b : Nat) : within (s : Int) a b = true ↔ min a b ≤ s ∧ s ≤ max a b := by
  unfold within
  simp only [Bool.or_eq_true, Bool.and_eq_true, decide_eq_true_eq]
  omega
/-- The document's: nothing is wrong on the squares from one on. -/
def dway (c : Nat → Int) (t d k s : Nat) (x : Nat) : Bool :=
  ((within (x : Int) k (kg t d) || within (x : Int) s (rg t d)) && (P.kind (bare c k s (1 + x)) != 0)) || (within (x : Int) k (kg t d) && !dsafe (bare c k s) t x)
def dfree (c : Nat → Int) (t d k s : Nat) : Nat → Nat → Bool
  | _, 0 => true
  | x, n + 1 => !dway c t d k s x && dfree c t d k s (x + 1) n
theorem dfree_iff (c : Nat → Int) (t d k s : Nat) : ∀ n x, dfree c t d k s x n = true ↔ ∀ j, x ≤ j → j < x + n → dway c t d k s j = false
  | 0, x => by simp [dfree]; intro j h1 h2; omega
  | n + 1, x => by
    rw [dfree, Bool.and_eq_true, dfree_iff c t d k s n (x + 1)]
    constructor
    · rintro ⟨h0, h⟩ j h1 h2
      rcases Nat.eq_or_lt_of_le h1 with rfl | h3
      · simpa using h0
      · exact h j (by omega) (by omega)
    · intro h
      exact ⟨by simp [h x (Nat.le_refl _) (by omega)], fun j h1 h2 => h j (by omega) (by omega)⟩
/-- The document's: king and rook. -/
def dMay (c : Nat → Int) (t d : Nat) : Option (Nat × Nat) :=
  if castles (c 0) = false then none
  else if D.find c (t : Int) 6 < 56 * (t : Int) ∨ 56 * (t : Int) + 7 < D.find c (t : Int) 6 ∨ c (rightAt t d) < 0 ∨ 7 < c (rightAt t d) then none
  else if D.is c (rk c t d) (t : Int) 4 = false ∨ (d = 0 ∧ (rk c t d : Int) < D.find c (t : Int) 6) ∨ (d = 1 ∧ D.find c (t : Int) 6 < (rk c t d : Int)) then none
  else if dfree c t d (D.find c (t : Int) 6).toNat (rk c t d) (56 * t) 8 then some ((D.find c (t : Int) 6).toNat, rk c t d) else none
theorem bare_other (c : Nat → Int) (k s x : Nat) (h1 : x ≠ 1 + k) (h2 : x ≠ 1 + s) : bare c k s x = c x := by
  unfold bare
  rw [upd_other _ _ _ _ h2, upd_other _ _ _ _ h1]
theorem kind_color (x : Int) (h0 : 0 ≤ x) (h1 : x ≤ 255) (k : Int) (hk : 1 ≤ k ∧ k ≤ 6) (t : Int) (ht : t = 0 ∨ t = 1) : (P.kind x == k && D.color x == t) = (x == 8 * t + k) := by
  rw [Bool.eq_iff_iff, Bool.and_eq_true, D.kind_of x h0 h1]
  unfold D.color
  simp only [beq_iff_eq]
  split <;> omega
theorem is_val {c : Nat → Int} (hc : BdOk c) (s : Nat) (hs : s < 64) (t k : Int) (ht : t = 0 ∨ t = 1) (hk : 1 ≤ k ∧ k ≤ 6) : D.is c s t k = (c (1 + s) == 8 * t + k) := by
  unfold D.is
  exact kind_color _ (hc s hs).1 (hc s hs).2 k hk t ht
theorem near_bare (c : Nat → Int) (t k s : Nat) (hc : BdOk c) (ht : t < 2) (hk : k < 64) (hs : s < 64) (h1 : c (1 + k) = 8 * (t : Int) + 6) (h2 : c (1 + s) = 8 * (t : Int) + 4) (x : Int) : D.near (bare c k s) (t : Int) x 0 64 = D.near c (t : Int) x 0 64 := by
  have hb := bare_bd c k s hc
  have hoc : K.oc (t : Int) = 1 - (t : Int) := by unfold K.oc; omega
  have e : ∀ j, j < 64 → D.is (bare c k s) j (K.oc (t : Int)) 6 = D.is c j (K.oc (t : Int)) 6 := fun j hj => by
    rw [hoc, is_val hb j hj _ _ (by omega) (by omega), is_val hc j hj _ _ (by omega) (by omega)]
    by_cases hjs : j = s
    · subst hjs
      have : bare c k j (1 + j) = 0 := by unfold bare; rw [upd_same]
      rw [this, h2, Bool.eq_iff_iff, beq_iff_eq, beq_iff_eq]; omega
    · by_cases hjk : j = k
      · subst hjk
        have : bare c j s (1 + j) = 0 := by unfold bare; rw [upd_other _ _ _ _ (by omega), upd_same]
        rw [this, h1, Bool.eq_iff_iff, beq_iff_eq, beq_iff_eq]; omega
      · rw [bare_other c k s _ (by omega) (by omega)]
  rw [Bool.eq_iff_iff, near_spec', near_spec']
  constructor
  · rintro ⟨j, a1, a2, a3, a4⟩
    exact ⟨j, a1, a2, by rw [← e j (by omega)]; exact a3, a4⟩
  · rintro ⟨j, a1, a2, a3, a4⟩
    exact ⟨j, a1, a2, by rw [e j (by omega)]; exact a3, a4⟩
theorem kg_bd (t d : Nat) : 56 * t ≤ kg t d ∧ kg t d ≤ 56 * t + 7 := by unfold kg; split <;> omega
theorem rg_bd (t d : Nat) : 56 * t ≤ rg t d ∧ rg t d ≤ 56 * t + 7 := by unfold rg; split <;> omega
theorem mayOk_eq (c : Nat → Int) (t d k s : Nat) (hc : BdOk c) (ht : t < 2) (hk : 56 * t ≤ k ∧ k ≤ 56 * t + 7) (hs : 56 * t ≤ s ∧ s ≤ 56 * t + 7) (h1 : c (1 + k) = 8 * (t : Int) + 6) (h2 : c (1 + s) = 8 * (t : Int) + 4) :
    mayOk c t d k s = dfree c t d k s (56 * t) 8 := by
  have hb := bare_bd c k s hc
  have hkg := kg_bd t d
  have hrg := rg_bd t d
  have hem : ∀ x, x < 64 → (P.kind (bare c k s (1 + x)) != 0) = !emptyB c k s x := fun x hx => by
    unfold emptyB
    rw [bit_all _ x hx, isB_kind _ (hb x hx).1 (hb x hx).2, Bool.not_not]
  have hoc : K.oc (t : Int) = 1 - (t : Int) := by unfold K.oc; omega
  have hb0 : bare c k s 0 = c 0 := bare_other c k s 0 (by omega) (by omega)
  have hsf : ∀ x, x < 64 → dsafe (bare c k s) t x = safeB c t k s x := fun x hx => by
    unfold dsafe safeB K.on
    rw [hb0, near_bare c t k s hc ht (by omega) (by omega) h1 h2, ← near_eq c (t : Int) x hc hx, hoc, by_eq _ _ _ hb (by omega), if_pos (by omega)]
    congr 1
    cases h : (U (D.by' (bare c k s) (x : Int) (1 - (t : Int))) == 0) <;> simp_all
  rw [Bool.eq_iff_iff, dfree_iff]
  unfold mayOk
  rw [Bool.and_eq_true, Bool.and_eq_true, seg_all k _ (emptyB c k s) (by omega) (by omega), seg_all s _ (emptyB c k s) (by omega) (by omega), seg_all k _ (safeB c t k s) (by omega) (by omega)]
  have hdw : ∀ j, j < 64 → (dway c t d k s j = false ↔ ((min k (kg t d) ≤ j ∧ j ≤ max k (kg t d)) → emptyB c k s j = true ∧ safeB c t k s j = true) ∧ ((min s (rg t d) ≤ j ∧ j ≤ max s (rg t d)) → emptyB c k s j = true)) := fun j hj => by
    unfold dway
    rw [hem j hj, hsf j hj, ← within_iff, ← within_iff]
    cases within (j : Int) k (kg t d) <;> cases within (j : Int) s (rg t d) <;> cases emptyB c k s j <;> cases safeB c t k s j <;> simp
  constructor
  · rintro ⟨a1, a2, a3⟩ j j1 j2
    rw [hdw j (by omega)]
    exact ⟨fun h => ⟨a1 j h.1 h.2, a3 j h.1 h.2⟩, fun h => a2 j h.1 h.2⟩
  · intro h
    refine ⟨fun x x1 x2 => ?_, fun x x1 x2 => ?_, fun x x1 x2 => ?_⟩
    · exact (((hdw x (by omega)).1 (h x (by omega) (by omega))).1 ⟨x1, x2⟩).1
    · exact ((hdw x (by omega)).1 (h x (by omega) (by omega))).2 ⟨x1, x2⟩
    · exact (((hdw x (by omega)).1 (h x (by omega) (by omega))).1 ⟨x1, x2⟩).2
/-- The moves by which who is to move may castle: squares of king and rook. -/
def clist (c : Nat → Int) : List (Nat × Nat) :=
  if (0 ≤ c 78 ∧ c 78 ≤ 1) ∧ castles (c 0) = true ∧ 0 ≤ S.find c (c 78) 6 ∧ (S.find c (c 78) 6).toNat / 8 = 7 * (c 78).toNat then
    [1, 0].filterMap fun d => (cand c (c 78).toNat d (S.find c (c 78) 6).toNat).map fun s => ((S.find c (c 78) 6).toNat, s)
  else []
def dlist (c : Nat → Int) : List (Nat × Nat) := if 0 ≤ c 78 ∧ c 78 ≤ 1 then [1, 0].filterMap fun d => dMay c (c 78).toNat d else []
theorem find_is (c : Nat → Int) (color : Int) (h : 0 ≤ D.find c color 6) : D.is c (D.find c color 6).toNat color 6 = true ∧ (D.find c color 6).toNat < 64 := by
  rcases dfirst_spec (fun s => D.is c s color 6) 64 0 with ⟨e, _⟩ | ⟨j, _, hj, e, hp, _⟩
  · have : D.find c color 6 = -1 := e
    omega
  · have : D.find c color 6 = (j : Int) := e
    rw [this, Int.toNat_natCast]
    exact ⟨hp, by omega⟩
theorem cand_eq (c : Nat → Int) (t d : Nat) (hc : PosOk c) (ht : t < 2) (hd : d < 2) (hv : castles (c 0) = true) (hk0 : 0 ≤ D.find c (t : Int) 6) (hk : (D.find c (t : Int) 6).toNat / 8 = 7 * t) :
    (cand c t d (D.find c (t : Int) 6).toNat).map (fun s => ((D.find c (t : Int) 6).toNat, s)) = dMay c t d := by
  have hcb := pos_bd hc
  obtain ⟨hi, hk64⟩ := find_is c (t : Int) hk0
  obtain ⟨k, hk'⟩ : ∃ k : Nat, D.find c (t : Int) 6 = (k : Int) := ⟨(D.find c (t : Int) 6).toNat, by omega⟩
  unfold dMay
  rw [hk'] at hk0 hk hi hk64 ⊢
  rw [Int.toNat_natCast] at hk hi hk64 ⊢
  rw [is_val hcb k hk64 _ _ (by omega) (by omega), beq_iff_eq] at hi
  rw [if_neg (by rw [hv]; simp)]
  unfold cand
  by_cases hf : c (rightAt t d) < 0 ∨ 7 < c (rightAt t d)
  · rw [if_pos hf, if_pos (Or.inr (Or.inr hf))]; rfl
  · rw [if_neg hf, if_neg (show ¬ ((k : Int) < 56 * (t : Int) ∨ 56 * (t : Int) + 7 < (k : Int) ∨ c (rightAt t d) < 0 ∨ 7 < c (rightAt t d)) by omega)]
    have hs : 56 * t ≤ rk c t d ∧ rk c t d ≤ 56 * t + 7 := by unfold rk; omega
    rw [is_val hcb _ (by omega) _ _ (by omega) (by omega)]
    unfold rookOk
    cases hx : (c (1 + rk c t d) == 8 * (t : Int) + 4)
    · rw [if_pos (show (false = false ∨ (d = 0 ∧ (rk c t d : Int) < (k : Int)) ∨ (d = 1 ∧ (k : Int) < (rk c t d : Int))) from .inl rfl)]; rfl
    · rw [beq_iff_eq] at hx
      have hne : rk c t d ≠ k := fun e => by rw [e] at hx; omega
      rw [mayOk_eq c t d k _ hcb ht (by omega) hs hi hx]
      by_cases hside : (d = 0 ∧ (rk c t d : Int) < (k : Int)) ∨ (d = 1 ∧ (k : Int) < (rk c t d : Int))
      · rw [if_pos (show (true = false ∨ (d = 0 ∧ (rk c t d : Int) < (k : Int)) ∨ (d = 1 ∧ (k : Int) < (rk c t d : Int))) from .inr hside)]
        have : (decide ((k : Int) < (rk c t d : Int)) == (d == 0)) = false := by
          rcases hside with ⟨rfl, h⟩ | ⟨rfl, h⟩
          · rw [decide_eq_false (by omega)]; rfl
          · rw [decide_eq_true (by omega)]; rfl
        rw [this]; rfl
      · rw [if_neg (show ¬ ((true = false) ∨ (d = 0 ∧ (rk c t d : Int) < (k : Int)) ∨ (d = 1 ∧ (k : Int) < (rk c t d : Int))) by rintro (h | h); exact absurd h (by simp); exact hside h)]
        have h1 : (decide ((k : Int) < (rk c t d : Int)) == (d == 0)) = true := by
          rcases (show d = 0 ∨ d = 1 by omega) with rfl | rfl
          · rw [decide_eq_true (by omega)]; rfl
          · rw [decide_eq_false (by omega)]; rfl
        have h2 : ((rk c t d : Int) != (k : Int)) = true := by simp; omega
        rw [h1, h2]
        cases dfree c t d k (rk c t d) (56 * t) 8 <;> rfl
theorem clist_eq (c : Nat → Int) (hc : PosOk c) : clist c = dlist c := by
  have hcb := pos_bd hc
  unfold clist dlist
  by_cases ht : 0 ≤ c 78 ∧ c 78 ≤ 1
  · rw [if_pos ht]
    obtain ⟨t, htt⟩ : ∃ t : Nat, c 78 = (t : Int) := ⟨(c 78).toNat, by omega⟩
    rw [htt] at ht ⊢
    rw [Int.toNat_natCast, find_eq c (t : Int) hcb]
    by_cases h : castles (c 0) = true ∧ 0 ≤ D.find c (t : Int) 6 ∧ (D.find c (t : Int) 6).toNat / 8 = 7 * t
    · rw [if_pos ⟨ht, h⟩]
      have e1 := cand_eq c t 1 hc (by omega) (by omega) h.1 h.2.1 h.2.2
      have e0 := cand_eq c t 0 hc (by omega) (by omega) h.1 h.2.1 h.2.2
      simp only [List.filterMap_cons, List.filterMap_nil, e1, e0]
    · rw [if_neg (fun k => h k.2)]
      have : ∀ d, dMay c t d = none := fun d => by
        unfold dMay
        by_cases hv : castles (c 0) = false
        · rw [if_pos hv]
        · rw [if_neg hv, if_pos]
          have hv : castles (c 0) = true := by simpa using hv
          by_cases h0 : 0 ≤ D.find c (t : Int) 6
          · have hne : ¬ (D.find c (t : Int) 6).toNat / 8 = 7 * t := fun e => h ⟨hv, h0, e⟩
            have := (find_is c (t : Int) h0).2
            omega
          · omega
      simp [this]
  · rw [if_neg ht, if_neg (fun k => ht k.1)]
end T

end Go.Proofs.YtnkkhdcjbjiimaaDoor
