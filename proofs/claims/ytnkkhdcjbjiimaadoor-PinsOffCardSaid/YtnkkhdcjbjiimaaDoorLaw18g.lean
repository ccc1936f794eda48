/- Pins, by what stands along a ray. No walk. -/
import Derived.Test.YtnkkhdcjbjiimaaDoorLaw18f
namespace Go.Proofs.YtnkkhdcjbjiimaaDoor
open Go.RowKit Go.Sort

namespace N
/-- m is pinned by s along the ray d from k. -/
def PinAt (c : Nat → Int) (color : Int) (k d m s : Nat) : Prop :=
  ∃ pre pre2 rest2, rl k d = pre ++ m :: (pre2 ++ s :: rest2) ∧ (∀ j ∈ pre, P.kind (c (1 + j)) = 0) ∧ P.kind (c (1 + m)) ≠ 0 ∧ (∀ j ∈ pre2, P.kind (c (1 + j)) = 0) ∧ P.kind (c (1 + s)) ≠ 0 ∧ mine c color m = true ∧ mine c color s = false ∧ goes (P.kind (c (1 + s))) d = true
theorem res_of (c : Nat → Int) (color : Int) (k d m s : Nat) (hc : BdOk c) (hk : k < 64) (hd : d < 8) (h : PinAt c color k d m s) : ∃ line, res c color k d = some ((m : Int), (s : Int), line) := by
  obtain ⟨pre, pre2, rest2, hs, h1, h2, h3, h4, h5, h6, h7⟩ := h
  have hm0 : ¬ ((m : Int) < 0) := by omega
  rw [res_eq c color k d hc hk hd]
  unfold dres docR
  rw [hs, along_skip c color d pre _ _ _ h1, alongL, if_neg h2, if_pos (show (-1 : Int) < 0 by decide), h5, if_pos rfl, along_skip c color d pre2 _ _ _ h3, alongL, if_neg h4, if_neg hm0, h6, h7]
  exact ⟨_, rfl⟩
theorem res_spec (c : Nat → Int) (color : Int) (k d : Nat) (x : Int × Int × BitVec 64) (hc : BdOk c) (hk : k < 64) (hd : d < 8) (h : res c color k d = some x) :
    ∃ m s : Nat, m < 64 ∧ s < 64 ∧ PinAt c color k d m s ∧ x.1 = (m : Int) ∧ x.2.1 = (s : Int) ∧ bit x.2.2 m = true ∧ bit x.2.2 s = true := by
  have hx : x = (B.first (fst c k d), B.first (byS c k d), lin c k d) ∧ pinB c color k d = true := by
    unfold res at h
    split at h
    · rename_i hp; cases h; exact ⟨rfl, hp⟩
    · cases h
  obtain ⟨rfl, hp⟩ := hx
  unfold pinB at hp
  have l3 := (rl_spec k d hk hd).2.2
  rcases ray_ways c k d hc hk hd with ⟨pre, m, pre2, s, rest2, hs, h1, h2, h3, h4, hm, h5, hf, hb, hl⟩ | ⟨pre, m, rest, hs, _, _, _, hm, hf, hb⟩ | ⟨_, hf⟩
  · rw [hf, hb, U_one_and m _ hm, U_one_ne s h5, bit_of0 c color hc m hm, first_one s h5, Int.toNat_natCast, Bool.true_and, Bool.and_eq_true, Bool.and_eq_true] at hp
    have e1 : (U (bAnd (B.one (s : Int)) (S.of c color 0)) == 0) = !mine c color s := by
      have := U_one_and s (S.of c color 0) h5
      rw [bit_of0 c color hc s h5, bne] at this
      rw [← this, Bool.not_not]
    rw [e1] at hp
    have hbt : ∀ j, bit (lin c k d) j = decide (j ∈ pre ++ m :: (pre2 ++ [s])) := fun j => by
      rw [hl, bit_orL j _ _ (fun i hi => l3 i (by rw [hs]; simp at hi ⊢; rcases hi with h | h | h | h <;> simp [h])), bit_zero, Bool.false_or]
    refine ⟨m, s, hm, h5, ⟨pre, pre2, rest2, hs, h1, h2, h3, h4, hp.1, by simpa using hp.2.1, hp.2.2⟩, ?_, ?_, ?_, ?_⟩
    · show B.first (fst c k d) = _; rw [hf, first_one m hm]
    · show B.first (byS c k d) = _; rw [hb, first_one s h5]
    · show bit (lin c k d) m = true; rw [hbt]; simp
    · show bit (lin c k d) s = true; rw [hbt]; simp
  · rw [hb] at hp
    have e0 : (U 0#64 != 0) = false := rfl
    rw [e0, Bool.false_and, Bool.and_false] at hp
    cases hp
  · rw [hf] at hp
    have e0 : (U (bAnd 0#64 (S.of c color 0)) != 0) = false := by
      have : bAnd 0#64 (S.of c color 0) = 0#64 := by unfold bAnd; simp
      rw [this]; rfl
    rw [e0, Bool.false_and] at hp
    cases hp
theorem mem_pins (c : Nat → Int) (color : Int) (hc : BdOk c) (x : Int × Int × BitVec 64) : x ∈ pins c color ↔ color ≤ 1 ∧ ∃ k : Nat, k < 64 ∧ D.find c color 6 = (k : Int) ∧ ∃ d, d < 8 ∧ res c color k d = some x := by
  unfold pins
  rw [find_eq c color hc]
  constructor
  · intro h
    split at h
    · rename_i hif
      rcases D.find_bd c color 6 with hf | ⟨k, hk, hf⟩
      · omega
      · rw [hf] at h
        unfold upTo at h
        rw [List.mem_filterMap] at h
        obtain ⟨d, hd, e⟩ := h
        exact ⟨hif.1, k, hk, hf, d, List.mem_range.1 hd, e⟩
    · cases h
  · rintro ⟨h1, k, hk, hf, d, hd, e⟩
    rw [hf, if_pos ⟨h1, by omega⟩]
    unfold upTo
    exact List.mem_filterMap.2 ⟨d, List.mem_range.2 hd, e⟩
theorem pins_spec (c : Nat → Int) (color : Int) (hc : BdOk c) (x : Int × Int × BitVec 64) (h : x ∈ pins c color) :
    color ≤ 1 ∧ ∃ k : Nat, k < 64 ∧ D.find c color 6 = (k : Int) ∧ ∃ d, d < 8 ∧ ∃ m s : Nat, m < 64 ∧ s < 64 ∧ PinAt c color k d m s ∧ x.1 = (m : Int) ∧ x.2.1 = (s : Int) ∧ bit x.2.2 m = true ∧ bit x.2.2 s = true := by
  obtain ⟨h1, k, hk, hf, d, hd, e⟩ := (mem_pins c color hc x).1 h
  exact ⟨h1, k, hk, hf, d, hd, res_spec c color k d x hc hk hd e⟩
theorem PinAt.ray {c : Nat → Int} {color : Int} {k d m s : Nat} (hk : k < 64) (hd : d < 8) (h : PinAt c color k d m s) : inRay k d m = true ∧ inRay k d s = true ∧ inRay m d s = true := by
  obtain ⟨pre, pre2, rest2, hs, _⟩ := h
  obtain ⟨h1, h2, h3⟩ := rl_spec k d hk hd
  obtain ⟨g1, g2, g3, _⟩ := rl_split k d hk hd pre _ m hs
  exact ⟨(h1 m (h3 m (by rw [hs]; simp))).1 (by rw [hs]; simp), (h1 s (h3 s (by rw [hs]; simp))).1 (by rw [hs]; simp), g3 s (by simp)⟩
theorem at_none_iff (l : List (Int × Int × BitVec 64)) (s : Int) : at' l s = none ↔ ∀ x ∈ l, x.1 ≠ s := by
  unfold at'
  rw [List.find?_eq_none]
  constructor
  · intro h x hx e; exact h x hx (by simp [e])
  · intro h x hx e; exact h x hx (by simpa using e)
theorem at_mem (l : List (Int × Int × BitVec 64)) (s : Int) (x : Int × Int × BitVec 64) (h : at' l s = some x) : x ∈ l ∧ x.1 = s := by
  unfold at' at h
  exact ⟨List.mem_of_find?_eq_some h, by simpa using List.find?_some h⟩
theorem bit_men' (c : Nat → Int) (color : Int) (j : Nat) : bit (men (pins c color)) j = true ↔ ∃ x ∈ pins c color, x.1 = (j : Int) := by
  rw [bit_men _ j (fun x hx => by obtain ⟨m, _, hm, _, e, _⟩ := pins_bd c color x hx; exact ⟨m, hm, e⟩), List.any_eq_true]
  constructor
  · rintro ⟨x, hx, e⟩; exact ⟨x, hx, by simpa using e⟩
  · rintro ⟨x, hx, e⟩; exact ⟨x, hx, by simpa using e⟩
/-- What is pinned stands there, of that color. -/
theorem pins_mine (c : Nat → Int) (color : Int) (hc : BdOk c) (x : Int × Int × BitVec 64) (s : Nat) (h : x ∈ pins c color) (e : x.1 = (s : Int)) : mine c color s = true := by
  obtain ⟨_, k, hk, hf, d, hd, m, s', hm, hs', hp, e1, _⟩ := pins_spec c color hc x h
  have : m = s := by omega
  subst this
  obtain ⟨_, _, _, _, _, _, _, _, h5, _⟩ := hp
  exact h5
theorem cnt_or (b : BitVec 64) (m : Nat) (hm : m < 64) : ∀ n, C.cnt (bOr b (B.one (m : Int))).toNat n ≤ C.cnt b.toNat n + (if m < n then 1 else 0)
  | 0 => by simp [C.cnt]
  | n + 1 => by
    have ih := cnt_or b m hm n
    rw [cnt_bit, cnt_bit, bit_or, bit_one m n hm]
    by_cases e : n = m
    · subst e
      rw [if_neg (Nat.lt_irrefl _)] at ih
      rw [if_pos (Nat.lt_succ_self _)]
      cases bit b n <;> simp <;> omega
    · have : decide (n = m) = false := by simpa using e
      rw [this, Bool.or_false]
      by_cases hl : m < n
      · rw [if_pos hl] at ih
        rw [if_pos (show m < n + 1 by omega)]; omega
      · rw [if_neg hl] at ih
        rw [if_neg (show ¬ m < n + 1 by omega)]; omega
theorem cnt_men (l : List (Int × Int × BitVec 64)) (h : ∀ x ∈ l, ∃ m : Nat, m < 64 ∧ x.1 = (m : Int)) : ∀ b, C.cnt (l.foldl (fun b x => bOr b (B.one x.1)) b).toNat 64 ≤ C.cnt b.toNat 64 + l.length := by
  induction l with
  | nil => intro b; simp
  | cons x l ih =>
    intro b
    obtain ⟨m, hm, e⟩ := h x (List.mem_cons_self ..)
    rw [List.foldl_cons, e]
    have h1 := ih (fun y hy => h y (List.mem_cons_of_mem _ hy)) (bOr b (B.one (m : Int)))
    have h2 := cnt_or b m hm 64
    rw [if_pos hm] at h2
    simp only [List.length_cons]
    omega
theorem men_few (c : Nat → Int) (color : Int) : C.cnt (men (pins c color)).toNat 64 ≤ 8 := by
  have h := cnt_men (pins c color) (fun x hx => by obtain ⟨m, _, hm, _, e, _⟩ := pins_bd c color x hx; exact ⟨m, hm, e⟩) 0#64
  have h0 : C.cnt (0#64 : BitVec 64).toNat 64 = 0 := by decide
  have := pins_len c color
  unfold men
  omega
end N
theorem isK_is (x color : Int) (h0 : 0 ≤ x) (h1 : x ≤ 255) (hc : color = 0 ∨ color = 1) : (x == 8 * color + 6) = (P.kind x == 6 && D.color x == color) := by
  rcases hc with rfl | rfl
  · exact all8 (fun x => (x == 8 * 0 + 6) = (P.kind x == 6 && D.color x == 0)) (by decide +kernel) x h0 h1
  · exact all8 (fun x => (x == 8 * 1 + 6) = (P.kind x == 6 && D.color x == 1)) (by decide +kernel) x h0 h1
theorem kcnt_two (c : Nat → Int) (color : Int) (i j : Nat) (hi : isK c color i = true) (hj : isK c color j = true) (hij : i < j) : ∀ n, j < n → 2 ≤ kcnt c color n := by
  have one : ∀ n, i < n → 1 ≤ kcnt c color n := by
    intro n
    induction n with
    | zero => omega
    | succ n ih =>
      intro h
      rw [kcnt]
      by_cases e : i = n
      · subst e; rw [if_pos hi]; omega
      · have := ih (by omega); omega
  intro n
  induction n with
  | zero => omega
  | succ n ih =>
    intro h
    rw [kcnt]
    by_cases e : j = n
    · subst e; rw [if_pos hj]; have := one j hij; omega
    · have := ih (by omega); omega

end Go.Proofs.YtnkkhdcjbjiimaaDoor
