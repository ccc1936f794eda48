/- The plain law of chapter 13: where a piece may go, by the program's sets and by the document. No walk. -/
import Derived.Test.YtlphjjekamhnlaaDoorEach
import Derived.Test.YtlphjjekamhnlaaDoorLawX
namespace Go.Proofs.YtlphjjekamhnlaaDoor
open Go.RowKit

namespace D
def empty (c : Nat → Int) (s : Nat) : Bool := P.kind (c (1 + s)) == 0
def own (c : Nat → Int) (s : Nat) (t : Int) : Bool := !empty c s && (color (c (1 + s)) == t)
def up1 (t : Nat) : Int := if t = 0 then 8 else -8
/-- May the pawn on a go to b? -/
def pawn (c : Nat → Int) (t a b : Nat) : Bool :=
  if hits c a b = true then own c b (1 - (t : Int)) || (c 83 == (b : Int))
  else if (b : Int) = (a : Int) + up1 t then empty c b
  else decide ((b : Int) = (a : Int) + 2 * up1 t) && ((decide (Z.rank t a = 1) || (decide (Z.rank t a = 0) && (decide (c 0 = 7) && decide (t = 0)))) && (empty c ((a : Int) + up1 t).toNat && empty c b))
/-- May the piece on a go to b? -/
def may (c : Nat → Int) (t a b : Nat) : Bool :=
  decide (a ≠ b) && (own c a (t : Int) && (!own c b (t : Int) &&
    (if P.kind (c (1 + a)) = 1 then pawn c t a b
     else if P.kind (c (1 + a)) = 6 then hits c a b && (decide (c 0 ≠ 3) || empty c b)
     else hits c a b)))
end D

theorem bit_one' (s : Int) (n : Nat) (hn : n < 64) : bit (B.one s) n = (s == (n : Int)) := by
  by_cases h : 0 ≤ s ∧ s < 64
  · obtain ⟨m, rfl⟩ : ∃ m : Nat, s = (m : Int) := ⟨s.toNat, by omega⟩
    rw [bit_one m n (by omega), Bool.eq_iff_iff]
    simp
    omega
  · unfold B.one
    rw [if_neg h, bit_zero]
    symm
    simp
    omega
theorem bit_ofK (c : Nat → Int) (t : Int) (hc : BdOk c) (j : Nat) (hj : j < 64) : bit (S.of c t 0) j = D.own c j t := by
  obtain ⟨x0, x1⟩ := hc j hj
  rw [bit_of c t 0 j hj]
  unfold S.ofG D.own D.empty
  have := isB_kind _ x0 x1
  cases hb : P.isB (c (1 + j))
  · rw [isB_false _ hb]; simp
  · rw [hb] at this
    rw [color_eq _ hb]
    simp at this ⊢
    simp [this]
theorem or_all (c : Nat → Int) (t : Int) (ht : t = 0 ∨ t = 1) (hc : BdOk c) : bOr (S.of c t 0) (S.of c (1 - t) 0) = S.all c := bit_ext fun j hj => by
  obtain ⟨x0, x1⟩ := hc j hj
  rw [bit_or, bit_ofK c t hc j hj, bit_ofK c (1 - t) hc j hj, bit_all c j hj]
  unfold D.own D.empty
  have hk := isB_kind _ x0 x1
  cases hb : P.isB (c (1 + j))
  · rw [isB_false _ hb]; simp
  · obtain ⟨_, _, h3⟩ := isB_true _ x0 x1 hb
    rw [color_eq _ hb] at h3
    rw [hb] at hk
    simp at hk ⊢
    rcases ht with rfl | rfl <;> rcases h3 with h3 | h3 <;> simp [h3, hk]
theorem empty_all (c : Nat → Int) (hc : BdOk c) (j : Nat) (hj : j < 64) : D.empty c j = !bit (S.all c) j := by
  obtain ⟨x0, x1⟩ := hc j hj
  rw [bit_all c j hj, ← isB_kind _ x0 x1]
  unfold D.empty
  cases h : (P.kind (c (1 + j)) == 0) <;> simp_all
theorem one_iff (t a b : Nat) (ht : t ≤ 1) (ha : a < 64) (hr : Z.rank t a ≠ 7) : (b = Z.one t a) ↔ (b : Int) = (a : Int) + D.up1 t := by
  obtain ⟨h1, h2⟩ := Z.ahead_one t a ha hr
  unfold Z.ahead at h1
  unfold D.up1
  split at h1 <;> split <;> omega
theorem two_iff (t a b : Nat) (ht : t ≤ 1) (ha : a < 64) (hr : Z.rank t a ≤ 1) : (b = Z.one t (Z.one t a)) ↔ (b : Int) = (a : Int) + 2 * D.up1 t := by
  obtain ⟨h1, h2⟩ := Z.ahead_one t a ha (by omega)
  obtain ⟨h3, h4⟩ := Z.ahead_two t a ha hr
  unfold Z.ahead at h1 h3
  unfold D.up1
  split at h1 <;> split at h3 <;> split <;> omega
/-- A pawn hits no square of its own file. -/
theorem pawn_aside (c : Nat → Int) (a b : Nat) (h1 : P.kind (c (1 + a)) = 1) (h : D.hits c a b = true) : (b : Int) % 8 ≠ (a : Int) % 8 := by
  intro e
  unfold D.hits at h
  have hz : D.aside a b = 0 := by unfold D.aside; rw [show (b : Int) % 8 - (a : Int) % 8 = 0 by omega]; rfl
  rw [if_pos h1, hz] at h
  split at h <;> simp at h
theorem dest_pawn (c : Nat → Int) (t a b : Nat) (hc : PosOk c) (ht : c 78 = (t : Int)) (ht1 : t ≤ 1) (ha : a < 64) (hb : b < 64) (h1 : P.kind (c (1 + a)) = 1) (ho : D.own c a (t : Int) = true) :
    bit (Z.pawn c (Z.own c) (Z.oth c) t a) b = D.pawn c t a b := by
  have hbd := pos_bd hc
  have hcol : D.color (c (1 + a)) = (t : Int) := by unfold D.own at ho; simp at ho; exact ho.2
  have hall : bOr (Z.own c) (Z.oth c) = S.all c := by unfold Z.own Z.oth; rw [ht]; exact or_all c (t : Int) (by omega) hbd
  have hhit : bit (R.pawn (c 78) (a : Int)) b = D.hits c a b := by
    rw [hits_K c a b hbd ha hb, h1, hcol, ht]
    exact bit_hits 1 (t : Int) (S.all c) a b (by omega) ha hb
  have hpo : bit (Z.pout c (Z.oth c) a) b = (D.hits c a b && (D.own c b (1 - (t : Int)) || (c 83 == (b : Int)))) := by
    unfold Z.pout Z.passing
    rw [bit_and, bit_or, hhit, bit_one' _ b hb]
    congr 2
    unfold Z.oth
    rw [ht]
    exact bit_ofK c _ hbd b hb
  unfold Z.pawn D.pawn
  rw [hall]
  by_cases hr : Z.rank t a = 7
  · rw [if_pos hr, hpo]
    cases hh : D.hits c a b
    · rw [if_neg (by simp), if_neg, hr]
      · simp
      · unfold Z.rank at hr
        unfold D.up1
        split at hr <;> split <;> omega
    · simp
  rw [if_neg hr]
  have hone := one_iff t a b ht1 ha hr
  obtain ⟨e1, e2⟩ := Z.ahead_one t a ha hr
  have e1' : ((a : Int) + D.up1 t).toNat = Z.one t a := by
    have := (one_iff t a (Z.one t a) ht1 ha hr).1 rfl
    omega
  rw [e1']
  have hfile : D.hits c a b = true → b ≠ Z.one t a ∧ ((b : Int) ≠ (a : Int) + 2 * D.up1 t) := fun h => by
    have := pawn_aside c a b h1 h
    rw [ne_eq, hone]
    unfold D.up1
    split <;> omega
  have hE1 := empty_all c hbd (Z.one t a) e2
  have hEb := empty_all c hbd b hb
  by_cases hbl : bit (S.all c) (Z.one t a) = true
  · rw [if_pos hbl, hpo]
    cases hh : D.hits c a b
    · rw [if_neg (by simp), hE1, hbl]
      split
      · rename_i h
        rw [hEb, hone.2 h, hbl]
        rfl
      · simp
    · simp
  rw [if_neg hbl]
  have hbl' : bit (S.all c) (Z.one t a) = false := by simpa using hbl
  have hfrom : Z.from2 c (Z.rank t a) = (decide (Z.rank t a = 1) || (decide (Z.rank t a = 0) && (decide (c 0 = 7) && decide (t = 0)))) := by
    unfold Z.from2
    rw [ht]
    congr 3
    simp
  by_cases hf : Z.from2 c (Z.rank t a) = true
  · rw [if_pos hf]
    rw [hfrom] at hf
    have hr1 : Z.rank t a ≤ 1 := by simp at hf; omega
    obtain ⟨e3, e4⟩ := Z.ahead_two t a ha hr1
    have htwo := two_iff t a b ht1 ha hr1
    rw [bit_or, bit_or, bit_andn, hpo, bit_one _ b e2, bit_one _ b e4, hf, hE1, hbl', hEb]
    cases hh : D.hits c a b
    · rw [if_neg (by simp)]
      by_cases hb1 : b = Z.one t a
      · rw [if_pos (hone.1 hb1), hb1, hbl']
        simp
      · rw [if_neg (fun h => hb1 (hone.2 h))]
        by_cases hb2 : b = Z.one t (Z.one t a)
        · have h12 : Z.one t (Z.one t a) ≠ Z.one t a := fun e => hb1 (hb2.trans e)
          have h13 := htwo.1 hb2
          rw [hb2] at h13 ⊢
          simp [h12, h13]
        · have : ¬ (b : Int) = (a : Int) + 2 * D.up1 t := fun h => hb2 (htwo.2 h)
          simp [hb1, hb2, this]
    · obtain ⟨n1, n2⟩ := hfile hh
      have n3 : b ≠ Z.one t (Z.one t a) := fun h => n2 (htwo.1 h)
      simp [n1, n3]
  · rw [if_neg hf]
    rw [hfrom] at hf
    have hf' : (decide (Z.rank t a = 1) || (decide (Z.rank t a = 0) && (decide (c 0 = 7) && decide (t = 0)))) = false := by simpa using hf
    rw [bit_or, hpo, bit_one _ b e2, hf', hE1, hbl', hEb]
    cases hh : D.hits c a b
    · rw [if_neg (by simp)]
      by_cases hb1 : b = Z.one t a
      · rw [if_pos (hone.1 hb1), hb1, hbl']
        simp
      · rw [if_neg (fun h => hb1 (hone.2 h))]
        simp [hb1]
    · obtain ⟨n1, n2⟩ := hfile hh
      simp [n1]
/-- Where a piece may go, by the sets and by the document. -/
theorem dest_may (c : Nat → Int) (t a b : Nat) (hc : PosOk c) (ht : c 78 = (t : Int)) (ht1 : t ≤ 1) (ha : a < 64) (hb : b < 64) (ho : D.own c a (t : Int) = true) :
    bit (Z.dest c (Z.own c) (Z.oth c) a) b = D.may c t a b := by
  have hbd := pos_bd hc
  have hcol : D.color (c (1 + a)) = (t : Int) := by unfold D.own at ho; simp at ho; exact ho.2
  have hall : bOr (Z.own c) (Z.oth c) = S.all c := by unfold Z.own Z.oth; rw [ht]; exact or_all c (t : Int) (by omega) hbd
  unfold Z.dest
  rw [bit_andn, show bit (Z.own c) b = D.own c b (t : Int) by unfold Z.own; rw [ht]; exact bit_ofK c _ hbd b hb]
  unfold D.may
  rw [ho, Bool.true_and]
  cases hob : D.own c b (t : Int)
  · have hab : a ≠ b := fun e => by rw [e, hob] at ho; cases ho
    simp only [hab, decide_true, Bool.not_false, Bool.and_true, Bool.true_and, ne_eq, not_false_eq_true]
    obtain ⟨k, hk⟩ : ∃ k : Nat, P.kind (c (1 + a)) = (k : Int) := by
      obtain ⟨x0, x1⟩ := hbd a ha
      cases hB : P.isB (c (1 + a))
      · exact ⟨0, isB_false _ hB⟩
      · exact ⟨(P.kind (c (1 + a))).toNat, by have := isB_true _ x0 x1 hB; omega⟩
    have hK : D.hits c a b = D.hitsK (k : Int) (t : Int) (S.all c) a b := by rw [hits_K c a b hbd ha hb, hk, hcol]
    have hB := bit_hits k (t : Int) (S.all c) a b (by omega) ha hb
    unfold Z.base
    rw [hall]
    by_cases h1 : k = 1
    · have hk1 : P.kind (c (1 + a)) = 1 := by rw [hk, h1]; rfl
      rw [if_pos hk1, if_pos hk1, ht, Int.toNat_natCast]
      exact dest_pawn c t a b hc ht ht1 ha hb hk1 ho
    rw [if_neg (show ¬ P.kind (c (1 + a)) = 1 by omega), if_neg (show ¬ P.kind (c (1 + a)) = 1 by omega)]
    by_cases h6 : k = 6
    · subst h6
      rw [if_neg (show ¬ P.kind (c (1 + a)) = 2 by omega), if_neg (show ¬ P.kind (c (1 + a)) = 3 by omega), if_neg (show ¬ P.kind (c (1 + a)) = 4 by omega), if_neg (show ¬ P.kind (c (1 + a)) = 5 by omega), if_pos (show P.kind (c (1 + a)) = 6 by omega), if_pos (show P.kind (c (1 + a)) = 6 by omega), hK, ← hB]
      have hEb := empty_all c hbd b hb
      by_cases h3 : c 0 = 3
      · rw [if_pos h3, bit_andn]
        show (bit (R.king a) b && _) = (bit (R.king a) b && _)
        congr 1
        simp only [h3, not_true_eq_false, decide_false, Bool.false_or, hEb]
        rw [← hall, bit_or, show bit (Z.own c) b = D.own c b (t : Int) by unfold Z.own; rw [ht]; exact bit_ofK c _ hbd b hb, hob, Bool.false_or]
      · rw [if_neg h3]
        simp only [h3, not_false_eq_true, decide_true, Bool.true_or, Bool.and_true]
        rfl
    rw [if_neg (show ¬ P.kind (c (1 + a)) = 6 by omega), if_neg (show ¬ P.kind (c (1 + a)) = 6 by omega), hK, ← hB]
    by_cases h2 : k = 2
    · subst h2; rw [if_pos (show P.kind (c (1 + a)) = 2 by omega)]; rfl
    rw [if_neg (show ¬ P.kind (c (1 + a)) = 2 by omega)]
    by_cases h3 : k = 3
    · subst h3; rw [if_pos (show P.kind (c (1 + a)) = 3 by omega)]; rfl
    rw [if_neg (show ¬ P.kind (c (1 + a)) = 3 by omega)]
    by_cases h4 : k = 4
    · subst h4; rw [if_pos (show P.kind (c (1 + a)) = 4 by omega)]; rfl
    rw [if_neg (show ¬ P.kind (c (1 + a)) = 4 by omega)]
    by_cases h5 : k = 5
    · subst h5; rw [if_pos (show P.kind (c (1 + a)) = 5 by omega)]; rfl
    rw [if_neg (show ¬ P.kind (c (1 + a)) = 5 by omega)]
    congr 1
    unfold K.hits
    split <;> first | omega | rfl
  · simp
namespace Z
/-- All moves, in order. -/
def all (c : Nat → Int) (t : Nat) : List Mv := (B.list (own c)).flatMap fun a => (B.list (dest c (own c) (oth c) a)).flatMap fun b => eachL c t a b
end Z
namespace D
def list13 (c : Nat → Int) (t : Nat) : List Mv := (List.range 64).flatMap fun a => (List.range 64).flatMap fun b => if may c t a b = true then Z.eachL c t a b else []
end D
theorem flatMap_filter {α β : Type} (p : α → Bool) (f : α → List β) : ∀ l : List α, (l.filter p).flatMap f = l.flatMap fun x => if p x = true then f x else []
  | [] => rfl
  | x :: l => by
    rw [List.flatMap_cons, ← flatMap_filter p f l]
    cases h : p x
    · rw [List.filter_cons_of_neg (by simp [h])]; simp
    · rw [List.filter_cons_of_pos h]; simp
theorem flatMap_same {α β : Type} {f g : α → List β} : ∀ {l : List α}, (∀ x, x ∈ l → f x = g x) → l.flatMap f = l.flatMap g
  | [], _ => rfl
  | x :: l, h => by rw [List.flatMap_cons, List.flatMap_cons, h x List.mem_cons_self, flatMap_same fun y hy => h y (List.mem_cons_of_mem _ hy)]
/-- THE PLAIN LAW: all moves, in the document's order. -/
theorem all_eq (c : Nat → Int) (t : Nat) (hc : PosOk c) (ht : c 78 = (t : Int)) (ht1 : t ≤ 1) : Z.all c t = D.list13 c t := by
  unfold Z.all D.list13 B.list
  rw [flatMap_filter]
  refine flatMap_same fun a ha => ?_
  have ha := List.mem_range.1 ha
  rw [show bit (Z.own c) a = D.own c a (t : Int) by unfold Z.own; rw [ht]; exact bit_ofK c _ (pos_bd hc) a ha]
  split
  · rename_i ho
    rw [flatMap_filter]
    refine flatMap_same fun b hb => ?_
    rw [dest_may c t a b hc ht ht1 ha (List.mem_range.1 hb) ho]
  · rename_i ho
    symm
    rw [List.flatMap_eq_nil_iff]
    intro b _
    rw [if_neg]
    unfold D.may
    simp [ho]
end Go.Proofs.YtlphjjekamhnlaaDoor
