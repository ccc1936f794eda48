/- The program's package moves: castles, whole. -/
import Derived.Test.YtldpejeodhkgdaaMvD
namespace Go.Proofs.Ytldpejeodhkgdaa
open Go.RowKit Go.Sort
namespace N
/-- What castles answers. -/
def cas (c : Nat → Int) (f g : Nat) : ByteArray := if c 0 = 1 then cas9 c f g else casO c (c 78).toNat f g
theorem tg_eq {c : Nat → Int} {t k : Nat} (ht : t < 2) (h : 0 ≤ c (79 + 2 * t + k) ∧ c (79 + 2 * t + k) < 8) : tg c t k = (56 * t : Nat) + c (79 + 2 * t + k) := by
  unfold tg
  unfold IntKind.wrap
  simp only [IntKind.bits, IntKind.signed]
  simp
  omega
theorem ceq_iff (c : Nat → Int) (t k f g : Nat) : ceq c t k f g = true ↔ (f = 56 * t + 4 ∧ tg c t k = (g : Int)) := by
  unfold ceq
  rw [beq_iff_eq]
  simp only [Prod.mk.injEq, and_true]
  constructor
  · rintro ⟨a, b⟩
    exact ⟨by omega, b⟩
  · rintro ⟨a, b⟩
    exact ⟨by omega, b⟩
theorem side_rk {c : Nat → Int} {k : Nat} (h : sideOk c k = true) : 0 ≤ rk c k ∧ rk c k < 8 := by
  unfold sideOk at h
  simp only [Bool.and_eq_true, decide_eq_true_eq] at h
  exact ⟨h.2.1, h.2.2.1⟩
theorem cok_iff {c : Nat → Int} (h0 : c 0 ≠ 1) (k : Nat) : cok c k = sideOk c k := by
  unfold cok
  rw [bne_iff_ne.2 h0, Bool.true_and]
theorem hit_iff {c : Nat → Int} {t k f g : Nat} (h0 : c 0 ≠ 1) (ht : c 78 = (t : Int)) (ht2 : t < 2) : (cok c k && ceq c t k f g) = true ↔ (sideOk c k = true ∧ f = home c + 4 ∧ (g : Int) = (home c : Int) + rk c k) := by
  have hh : home c = 56 * t := by unfold home; rw [ht, Int.toNat_natCast]
  have hr : rk c k = c (79 + 2 * t + k) := by unfold rk; rw [ht, Int.toNat_natCast]
  rw [Bool.and_eq_true, cok_iff h0, ceq_iff, hh]
  constructor
  · rintro ⟨a, b, e⟩
    have := side_rk a
    rw [hr] at this ⊢
    rw [tg_eq ht2 this] at e
    exact ⟨a, b, by omega⟩
  · rintro ⟨a, b, e⟩
    have := side_rk a
    rw [hr] at this e
    exact ⟨a, b, by rw [tg_eq ht2 this]; omega⟩
def CasEnd (c : Nat → Int) (f g : Nat) (s : ByteArray) : Prop := IsCas c f g s ∨ (s = ⟨#[]⟩ ∧ ∀ s', ¬ IsCas c f g s')
theorem cas_end {c : Nat → Int} {f g : Nat} (hk : known c) (hf : f < 64) (hg : g < 64) (hne : f ≠ g) : CasEnd c f g (cas c f g) := by
  obtain ⟨t, ht⟩ : ∃ t : Nat, c 78 = (t : Int) := ⟨(c 78).toNat, by have := hk.2; omega⟩
  have ht2 : t < 2 := by have := hk.2; omega
  have hh : home c = 56 * t := by unfold home; rw [ht, Int.toNat_natCast]
  unfold cas
  by_cases h0 : c 0 = 1
  · rw [if_pos h0]
    unfold cas9
    have hM : ∀ s k, (M.stands c s k = true) ↔ c (1 + s) = P.make (c 78) k := fun s k => by unfold M.stands; exact beq_iff_eq
    split
    · rename_i h
      rw [Bool.and_eq_true] at h
      exact .inl ⟨hf, hg, hne, .inl ⟨h0, h.1, (hM g 4).1 h.2, rfl⟩⟩
    · rename_i h
      refine .inr ⟨rfl, fun s' hs => h ?_⟩
      obtain ⟨_, _, _, hs⟩ := hs
      rcases hs with ⟨_, h1, h2, _⟩ | ⟨h3, _⟩
      · rw [Bool.and_eq_true]; exact ⟨h1, (hM g 4).2 h2⟩
      · exact absurd h0 h3
  · rw [if_neg h0, ht, Int.toNat_natCast]
    unfold casO
    have i0 := hit_iff (k := 0) (f := f) (g := g) h0 ht ht2
    have i1 := hit_iff (k := 1) (f := f) (g := g) h0 ht ht2
    split
    · rename_i h
      obtain ⟨a, b, e⟩ := i0.1 h
      exact .inl ⟨hf, hg, hne, .inr ⟨h0, 0, by omega, a, b, e, by rw [hh]; rfl⟩⟩
    · rename_i n0
      split
      · rename_i h
        obtain ⟨a, b, e⟩ := i1.1 h
        exact .inl ⟨hf, hg, hne, .inr ⟨h0, 1, by omega, a, b, e, by rw [hh]; rfl⟩⟩
      · rename_i n1
        refine .inr ⟨rfl, fun s' hs => ?_⟩
        obtain ⟨_, _, _, hs⟩ := hs
        rcases hs with ⟨h3, _⟩ | ⟨_, k, hk2, a, b, e, _⟩
        · exact absurd h3 h0
        · rcases (show k = 0 ∨ k = 1 by omega) with rfl | rfl
          · exact n0 (i0.2 ⟨a, b, e⟩)
          · exact n1 (i1.2 ⟨a, b, e⟩)
end N
theorem mvcastles_any (c : Nat → Int) (f g : Nat) (w : World) (hk : N.known c) (hf : f < 64) (hg : g < 64) :
    Calls Try.prog 17 #[.agg (posC c), .agg (movC f g 0 0 true)] w fun e w' => e = .returned (.string (N.cas c f g)) ∧ Below w.heap.size w w' := by
  unfold N.cas
  by_cases h0 : c 0 = 1
  · rw [if_pos h0]
    exact mvcastles_9 c f g w hk.2 h0 hf hg
  · rw [if_neg h0]
    rcases (show c 78 = 0 ∨ c 78 = 1 by have := hk.2; omega) with h | h
    · rw [h]
      exact mvcastles_o0 c f g w h h0 hf
    · rw [h]
      exact mvcastles_o1 c f g w h h0 hf
end Go.Proofs.Ytldpejeodhkgdaa
