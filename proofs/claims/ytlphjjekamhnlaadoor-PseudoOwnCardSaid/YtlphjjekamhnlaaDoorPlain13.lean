/- Plain laws of chapter 13: a piece taken off; there and back; the order. No walk. -/
import Derived.Test.YtlphjjekamhnlaaDoorMay
namespace Go.Proofs.YtlphjjekamhnlaaDoor
open Go.RowKit

theorem mem_each (c : Nat → Int) (t a b : Nat) (m : Mv) : m ∈ Z.eachL c t a b ↔ ∃ k, m = Z.mv a b k ∧ (if P.kind (c (1 + a)) = 1 ∧ Z.rank t b = 7 then k ∈ V.promos (c 0).toNat else k = 0) := by
  unfold Z.eachL
  split
  · rw [List.mem_map]
    constructor
    · rintro ⟨k, h, rfl⟩; exact ⟨k, rfl, h⟩
    · rintro ⟨k, rfl, h⟩; exact ⟨k, h, rfl⟩
  · rw [List.mem_singleton]
    constructor
    · rintro rfl; exact ⟨0, rfl, rfl⟩
    · rintro ⟨k, rfl, rfl⟩; rfl
theorem mem_list13 (c : Nat → Int) (t : Nat) (m : Mv) : m ∈ D.list13 c t ↔ ∃ a b, a < 64 ∧ b < 64 ∧ D.may c t a b = true ∧ m ∈ Z.eachL c t a b := by
  unfold D.list13
  simp only [List.mem_flatMap, List.mem_range]
  constructor
  · rintro ⟨a, ha, b, hb, h⟩
    split at h
    · rename_i hm; exact ⟨a, b, ha, hb, hm, h⟩
    · cases h
  · rintro ⟨a, b, ha, hb, hm, h⟩
    exact ⟨a, ha, b, hb, by rw [if_pos hm]; exact h⟩
theorem promos_ge (v k : Nat) (h : k ∈ V.promos v) : 2 ≤ k ∧ k ≤ 6 := by
  unfold V.promos at h
  have := V.last_bd v
  have := List.mem_range'_1.1 h
  omega
/-- Order: from, to, what it becomes. -/
def mvLt (x y : Mv) : Prop := x.1 < y.1 ∨ (x.1 = y.1 ∧ (x.2.1 < y.2.1 ∨ (x.2.1 = y.2.1 ∧ x.2.2.1 < y.2.2.1)))
theorem pairwise_each (c : Nat → Int) (t a b : Nat) : (Z.eachL c t a b).Pairwise mvLt := by
  unfold Z.eachL
  split
  · rw [List.pairwise_map]
    unfold V.promos
    refine (List.pairwise_lt_range' (s := 2) (n := V.last (c 0).toNat - 1)).imp ?_
    intro x y h
    exact .inr ⟨rfl, .inr ⟨rfl, by show (x : Int) < (y : Int); omega⟩⟩
  · exact List.pairwise_singleton _ _
theorem pairwise_list (c : Nat → Int) (t : Nat) : (D.list13 c t).Pairwise mvLt := by
  unfold D.list13
  rw [List.pairwise_flatMap]
  refine ⟨fun a _ => ?_, ?_⟩
  · rw [List.pairwise_flatMap]
    refine ⟨fun b _ => ?_, ?_⟩
    · split
      · exact pairwise_each c t a b
      · exact List.Pairwise.nil
    · refine (List.pairwise_lt_range (n := 64)).imp ?_
      intro b b' h x hx y hy
      split at hx
      · split at hy
        · obtain ⟨k, rfl, _⟩ := (mem_each ..).1 hx
          obtain ⟨k', rfl, _⟩ := (mem_each ..).1 hy
          exact .inr ⟨rfl, .inl (by show (b : Int) < (b' : Int); omega)⟩
        · cases hy
      · cases hx
  · refine (List.pairwise_lt_range (n := 64)).imp ?_
    intro a a' h x hx y hy
    obtain ⟨b, _, hx⟩ := List.mem_flatMap.1 hx
    obtain ⟨b', _, hy⟩ := List.mem_flatMap.1 hy
    split at hx
    · split at hy
      · obtain ⟨k, rfl, _⟩ := (mem_each ..).1 hx
        obtain ⟨k', rfl, _⟩ := (mem_each ..).1 hy
        exact .inl (by show (a : Int) < (a' : Int); omega)
      · cases hy
    · cases hx
theorem list_next (c : Nat → Int) (t i : Nat) (x y : Mv) (hx : (D.list13 c t)[i]? = some x) (hy : (D.list13 c t)[i + 1]? = some y) : mvLt x y := by
  obtain ⟨h1, e1⟩ := List.getElem?_eq_some_iff.1 hx
  obtain ⟨h2, e2⟩ := List.getElem?_eq_some_iff.1 hy
  have := List.pairwise_iff_getElem.1 (pairwise_list c t) i (i + 1) h1 h2 (by omega)
  rwa [e1, e2] at this

theorem own_bd (c : Nat → Int) (s : Nat) (t : Int) (h : D.own c s t = true) : D.empty c s = false ∧ D.color (c (1 + s)) = t := by
  unfold D.own at h
  simpa using h
theorem own_upd (c : Nat → Int) (s j : Nat) (v t : Int) (h : j ≠ s) : D.own (upd c (1 + s) v) j t = D.own c j t := by
  unfold D.own D.empty upd
  rw [if_neg (by omega)]
theorem empty_upd (c : Nat → Int) (s j : Nat) (v : Int) (h : j ≠ s) : D.empty (upd c (1 + s) v) j = D.empty c j := by
  unfold D.empty upd
  rw [if_neg (by omega)]
theorem empty_zero (c : Nat → Int) (s : Nat) : D.empty (upd c (1 + s) 0) s = true := by
  unfold D.empty upd
  rw [if_pos rfl]
  rfl
theorem empty_more (c : Nat → Int) (s j : Nat) (h : D.empty c j = true) : D.empty (upd c (1 + s) 0) j = true := by
  by_cases e : j = s
  · rw [e]; exact empty_zero c s
  · rw [empty_upd c s j 0 e]; exact h
theorem all_less (c : Nat → Int) (s j : Nat) (hj : j < 64) (h : bit (S.all (upd c (1 + s) 0)) j = true) : bit (S.all c) j = true := by
  rw [bit_all _ j hj] at h ⊢
  unfold upd at h
  split at h
  · exact absurd h (by decide)
  · exact h
/-- A piece taken off leaves the others their squares. -/
theorem may_less (c : Nat → Int) (t s a b : Nat) (hc : BdOk c) (hs : s < 64) (ha : a < 64) (hb : b < 64) (ho : D.own c s (t : Int) = true) (hne : a ≠ s) (h : D.may c t a b = true) :
    D.may (upd c (1 + s) 0) t a b = true ∧ b ≠ s := by
  have hbs : b ≠ s := fun e => by
    unfold D.may at h
    rw [e, ho] at h
    simp at h
  refine ⟨?_, hbs⟩
  have hc' : BdOk (upd c (1 + s) 0) := bdOk_upd hc _ _ (by omega) (by omega)
  have hk : upd c (1 + s) 0 (1 + a) = c (1 + a) := by unfold upd; rw [if_neg (by omega)]
  have h0 : upd c (1 + s) 0 0 = c 0 := by unfold upd; rw [if_neg (by omega)]
  have h83 : upd c (1 + s) 0 83 = c 83 := by unfold upd; rw [if_neg (by omega)]
  have hhits : D.hits c a b = true → D.hits (upd c (1 + s) 0) a b = true := fun hh => by
    rw [hits_K c a b hc ha hb] at hh
    rw [hits_K _ a b hc' ha hb, hk]
    exact hitsK_less _ _ a b (fun j hj hx => all_less c s j hj hx) hh
  have hpawn : P.kind (c (1 + a)) = 1 → D.hits (upd c (1 + s) 0) a b = D.hits c a b := fun h1 => by
    unfold D.hits
    rw [hk, if_pos h1, if_pos h1]
  unfold D.may at h ⊢
  rw [own_upd c s a 0 _ hne, own_upd c s b 0 _ hbs, hk, h0, empty_upd c s b 0 hbs]
  simp only [Bool.and_eq_true] at h ⊢
  obtain ⟨h1, h2, h3, h4⟩ := h
  refine ⟨h1, h2, h3, ?_⟩
  split
  · rename_i k1
    rw [if_pos k1] at h4
    unfold D.pawn at h4 ⊢
    rw [hpawn k1, own_upd c s b 0 _ hbs, h83, h0, empty_upd c s b 0 hbs]
    split
    · rename_i hh
      rw [if_pos hh] at h4
      exact h4
    · rename_i hh
      rw [if_neg hh] at h4
      split
      · rename_i e
        rw [if_pos e] at h4
        exact h4
      · rename_i e
        rw [if_neg e] at h4
        simp only [Bool.and_eq_true] at h4 ⊢
        exact ⟨h4.1, h4.2.1, empty_more c s _ h4.2.2.1, h4.2.2.2⟩
  · rename_i k1
    rw [if_neg k1] at h4
    split
    · rename_i k6
      rw [if_pos k6] at h4
      simp only [Bool.and_eq_true] at h4 ⊢
      exact ⟨hhits h4.1, h4.2⟩
    · rename_i k6
      rw [if_neg k6] at h4
      exact hhits h4
theorem list_less (c : Nat → Int) (t s : Nat) (hc : BdOk c) (hs : s < 64) (ho : D.own c s (t : Int) = true) (m : Mv) (hm : m ∈ D.list13 c t) (hne : m.1 ≠ (s : Int)) : m ∈ D.list13 (upd c (1 + s) 0) t := by
  obtain ⟨a, b, ha, hb, hmay, he⟩ := (mem_list13 ..).1 hm
  obtain ⟨k, rfl, hk⟩ := (mem_each ..).1 he
  have hne' : a ≠ s := fun e => hne (by show (a : Int) = s; omega)
  obtain ⟨h1, h2⟩ := may_less c t s a b hc hs ha hb ho hne' hmay
  refine (mem_list13 ..).2 ⟨a, b, ha, hb, h1, (mem_each ..).2 ⟨k, rfl, ?_⟩⟩
  rw [show upd c (1 + s) 0 (1 + a) = c (1 + a) by unfold upd; rw [if_neg (by omega)], show upd c (1 + s) 0 0 = c 0 by unfold upd; rw [if_neg (by omega)]]
  exact hk

/-- Squares between are neither end. -/
theorem btw_ends (a b j : Nat) (ha : a < 64) (hb : b < 64) (hj : j < 64) (hl : (D.straight a b || D.across a b) = true) (h : btw a b j = true) : j ≠ a ∧ j ≠ b := by
  obtain ⟨d, hd, hr⟩ := line_dir a b ha hb hl
  rw [btw_ray a d b j ha hd hb hj hr] at h
  simp only [Bool.and_eq_true] at h
  have hself : ∀ (a : Fin 64) (d : Fin 8), inRay a.val d.val a.val = false := by decide +kernel
  refine ⟨fun e => ?_, fun e => ?_⟩
  · rw [e, hself ⟨a, ha⟩ ⟨d, hd⟩] at h; cases h.1
  · rw [e, hself ⟨b, hb⟩ ⟨d, hd⟩] at h; cases h.2
theorem free_same {x y : BitVec 64} (a b : Nat) (ha : a < 64) (hb : b < 64) (hl : (D.straight a b || D.across a b) = true) (h : ∀ j, j < 64 → j ≠ a → j ≠ b → bit x j = bit y j) (hf : free x a b = true) : free y a b = true := by
  rw [free_iff] at hf ⊢
  intro j hj hbt
  obtain ⟨h1, h2⟩ := btw_ends a b j ha hb hj hl hbt
  rw [← h j hj h1 h2]
  exact hf j hj hbt
theorem hitsK_same {x y : BitVec 64} (k color : Int) (a b : Nat) (ha : a < 64) (hb : b < 64) (h : ∀ j, j < 64 → j ≠ a → j ≠ b → bit x j = bit y j) (hf : D.hitsK k color x a b = true) : D.hitsK k color y a b = true := by
  unfold D.hitsK at hf ⊢
  split
  · rename_i e; rw [if_pos e] at hf; exact hf
  rename_i e; rw [if_neg e] at hf
  split
  · rename_i e; rw [if_pos e] at hf; exact hf
  rename_i e; rw [if_neg e] at hf
  split
  · rename_i e; rw [if_pos e] at hf; exact hf
  rename_i e; rw [if_neg e] at hf
  split
  · rename_i e; rw [if_pos e] at hf
    simp only [Bool.and_eq_true] at hf ⊢
    exact ⟨hf.1, free_same a b ha hb (by rw [hf.1]; rfl) h hf.2⟩
  rename_i e; rw [if_neg e] at hf
  split
  · rename_i e; rw [if_pos e] at hf
    simp only [Bool.and_eq_true] at hf ⊢
    exact ⟨hf.1, free_same a b ha hb (by rw [hf.1, Bool.or_true]) h hf.2⟩
  rename_i e; rw [if_neg e] at hf
  split
  · rename_i e; rw [if_pos e] at hf
    simp only [Bool.and_eq_true] at hf ⊢
    exact ⟨hf.1, free_same a b ha hb hf.1 h hf.2⟩
  · rename_i e; rw [if_neg e] at hf; exact hf
theorem hitsK_color (k c1 c2 : Int) (x : BitVec 64) (a b : Nat) (h : k ≠ 1) : D.hitsK k c1 x a b = D.hitsK k c2 x a b := by
  unfold D.hitsK
  rw [if_neg h, if_neg h]
/-- There and back: a piece (no pawn) that may go to an empty square may go back. -/
theorem list_back (c : Nat → Int) (t : Nat) (a b : Nat) (k : Nat) (hc : BdOk c) (ha : a < 64) (hb : b < 64) (ht1 : t ≤ 1) (hm : Z.mv a b k ∈ D.list13 c t) (hp : P.kind (c (1 + a)) ≠ 1) :
    Z.mv b a 0 ∈ D.list13 (upd (upd c (1 + a) 0) (1 + b) (c (1 + a))) t := by
  obtain ⟨a', b', ha', hb', hmay, he⟩ := (mem_list13 ..).1 hm
  obtain ⟨k', hk', hk⟩ := (mem_each ..).1 he
  obtain ⟨rfl, rfl⟩ : a = a' ∧ b = b' := by
    unfold Z.mv at hk'
    simp only [Prod.mk.injEq] at hk'
    omega
  unfold D.may at hmay
  simp only [Bool.and_eq_true] at hmay
  obtain ⟨h1, h2, h3, h4⟩ := hmay
  rw [if_neg hp] at h4
  have hab : a ≠ b := by simpa using h1
  obtain ⟨x0, x1⟩ := hc a ha
  have hc' : BdOk (upd (upd c (1 + a) 0) (1 + b) (c (1 + a))) := bdOk_upd (bdOk_upd hc _ _ (by omega) (by omega)) _ _ x0 x1
  have qb : upd (upd c (1 + a) 0) (1 + b) (c (1 + a)) (1 + b) = c (1 + a) := by unfold upd; rw [if_pos rfl]
  have qa : upd (upd c (1 + a) 0) (1 + b) (c (1 + a)) (1 + a) = 0 := by unfold upd; rw [if_neg (by omega), if_pos rfl]
  have qj : ∀ j, j ≠ a → j ≠ b → upd (upd c (1 + a) 0) (1 + b) (c (1 + a)) (1 + j) = c (1 + j) := fun j e1 e2 => by unfold upd; rw [if_neg (by omega), if_neg (by omega)]
  have hhit : D.hits c a b = true → D.hits (upd (upd c (1 + a) 0) (1 + b) (c (1 + a))) b a = true := fun hh => by
    obtain ⟨_, hcol⟩ := own_bd c a _ h2
    rw [hits_K c a b hc ha hb, hcol] at hh
    rw [hits_K _ b a hc' hb ha, qb, hcol]
    rw [hitsK_color _ (t : Int) (1 - (t : Int)) _ b a hp, hitsK_back _ _ _ a b (by omega) ha hb]
    refine hitsK_same _ _ a b ha hb (fun j hj e1 e2 => ?_) hh
    rw [bit_all _ j hj, bit_all _ j hj, qj j e1 e2]
  refine (mem_list13 ..).2 ⟨b, a, hb, ha, ?_, (mem_each ..).2 ⟨0, rfl, ?_⟩⟩
  · unfold D.may
    have oe : D.own (upd (upd c (1 + a) 0) (1 + b) (c (1 + a))) b (t : Int) = true := by
      unfold D.own D.empty at h2 ⊢
      rw [qb]
      exact h2
    have ea : D.empty (upd (upd c (1 + a) 0) (1 + b) (c (1 + a))) a = true := by
      unfold D.empty
      rw [qa]
      rfl
    have oa : D.own (upd (upd c (1 + a) 0) (1 + b) (c (1 + a))) a (t : Int) = false := by
      unfold D.own
      rw [ea]
      rfl
    rw [oe, oa, qb, if_neg hp, ea]
    simp only [Bool.or_true, Bool.and_true, Bool.not_false, Bool.true_and, Bool.and_eq_true, decide_eq_true_eq]
    refine ⟨fun e => hab e.symm, ?_⟩
    split
    · rename_i k6
      rw [if_pos k6] at h4
      simp only [Bool.and_eq_true] at h4
      exact hhit h4.1
    · rename_i k6
      rw [if_neg k6] at h4
      exact hhit h4
  · rw [qb, if_neg (fun h => hp h.1)]
end Go.Proofs.YtlphjjekamhnlaaDoor
