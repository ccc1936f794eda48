/- Texts of moves, plain: a move has its text, or none. -/
import Derived.Test.YtldpejeodhkgdaaMvM
namespace Go.Proofs.Ytldpejeodhkgdaa
open Go.RowKit

namespace N
/-- A move's text, or none. -/
def TextEnd (c : Nat → Int) (f g x y : Int) (z : Bool) (s : ByteArray) : Prop := Text c f g x y z s ∨ (s = ⟨#[]⟩ ∧ ∀ s', ¬ Text c f g x y z s')
theorem sq_iff {s : Int} : sq s = true ↔ 0 ≤ s ∧ s < 64 := by
  unfold sq
  rw [Bool.and_eq_true, decide_eq_true_eq, decide_eq_true_eq]
theorem textEnd_one {c : Nat → Int} {f g x y : Int} {z : Bool} {s s' : ByteArray} (h : TextEnd c f g x y z s) (h' : TextEnd c f g x y z s') : s = s' := by
  rcases h with h | ⟨rfl, h⟩
  · rcases h' with h' | ⟨rfl, h'⟩
    · exact text_fun h h'
    · exact absurd h (h' _)
  · rcases h' with h' | ⟨rfl, h'⟩
    · exact absurd h' (h _)
    · rfl
theorem text_drop {c : Nat → Int} {f g x y : Int} {z : Bool} (hk : known c) (hf : 0 ≤ f ∧ f < 64) (hg : 0 ≤ g ∧ g < 64) (hy : 1 ≤ y ∧ y ≤ 5) (h : f = g) (hx : x = 0) (hz : z = false) : TextEnd c f g x y z (drop y.toNat g.toNat) :=
  .inl ⟨hk, ⟨hf, hg⟩, .inl ⟨hy, h, hx, hz, rfl⟩⟩
theorem text_noDrop {c : Nat → Int} {f g x y : Int} {z : Bool} (hy : y ≠ 0) (h : ¬ (y ≤ 5 ∧ f = g ∧ x = 0 ∧ z = false)) : TextEnd c f g x y z ⟨#[]⟩ := by
  refine .inr ⟨rfl, fun s' hs => ?_⟩
  rcases hs.2.2 with ⟨h1, h2, h3, h4, _⟩ | ⟨h1, _⟩ | ⟨h1, _⟩
  · exact h ⟨h1.2, h2, h3, h4⟩
  · exact hy h1
  · exact hy h1
theorem text_no {c : Nat → Int} {f g x y : Int} {z : Bool} (h : ¬ (known c ∧ ((0 ≤ f ∧ f < 64) ∧ (0 ≤ g ∧ g < 64)) ∧ (x = 0 ∨ (2 ≤ x ∧ x ≤ 6)))) : TextEnd c f g x y z ⟨#[]⟩ := by
  refine .inr ⟨rfl, fun s' hs => h ⟨hs.1, hs.2.1, ?_⟩⟩
  rcases hs.2.2 with ⟨_, _, h3, _⟩ | ⟨_, _, h3, _⟩ | ⟨_, _, h3, _⟩
  · exact .inl h3
  · exact .inl h3
  · exact h3
theorem text_same {c : Nat → Int} {f g x : Int} {z : Bool} (h : f = g ∨ (z = true ∧ x ≠ 0)) : TextEnd c f g x 0 z ⟨#[]⟩ := by
  refine .inr ⟨rfl, fun s' hs => ?_⟩
  rcases hs.2.2 with ⟨h1, _⟩ | ⟨_, h1, h2, _⟩ | ⟨_, h1, _, h2, _⟩
  · omega
  · rcases h with h | h
    · exact h1 h
    · exact h.2 h2
  · rcases h with h | h
    · exact h1 h
    · rw [h.1] at h2; cases h2
theorem text_cas {c : Nat → Int} {a b : Nat} (hk : known c) (ha : a < 64) (hb : b < 64) (hne : a ≠ b) : TextEnd c (a : Int) (b : Int) 0 0 true (cas c a b) := by
  rcases cas_end hk ha hb hne with h | ⟨h, hn⟩
  · exact .inl ⟨hk, ⟨by omega, by omega⟩, .inr (.inl ⟨rfl, by omega, rfl, rfl, by simpa using h⟩)⟩
  · refine .inr ⟨h, fun s' hs => ?_⟩
    rcases hs.2.2 with ⟨h1, _⟩ | ⟨_, _, _, _, h1⟩ | ⟨_, _, _, h1, _⟩
    · omega
    · exact hn s' (by simpa using h1)
    · cases h1
theorem text_walk {c : Nat → Int} {a b k : Nat} {f g : Int} {ok : Bool} (hk : known c) (ha : a < 64) (hb : b < 64) (hne : a ≠ b) (hx : k = 0 ∨ (2 ≤ k ∧ k ≤ 6)) (hR : RookR c (walk a b k) f g ok) : TextEnd c (a : Int) (b : Int) (k : Int) 0 false (if ok = true then ⟨#[]⟩ else walk a b k) := by
  rcases hR with ⟨rfl, a', b', _, _, h⟩ | ⟨rfl, h⟩
  · refine .inr ⟨if_pos rfl, fun s' hs => ?_⟩
    rcases hs.2.2 with ⟨h1, _⟩ | ⟨_, _, _, h1, _⟩ | ⟨_, _, _, _, h1, h2⟩
    · omega
    · cases h1
    · simp only [Int.toNat_natCast] at h1
      exact h2 ⟨a', b', by rw [h1]; exact h⟩
  · rw [if_neg (by simp)]
    exact .inl ⟨hk, ⟨by omega, by omega⟩, .inr (.inr ⟨rfl, by omega, by omega, rfl, by simp, fun ⟨a', b', h'⟩ => h a' b' h'⟩)⟩
theorem drop_size (k b : Nat) : (drop k b).size = 4 := rfl
theorem walk_size (a b k : Nat) : (walk a b k).size ≤ 5 := by
  unfold walk lowB
  split <;> exact Nat.le_of_ble_eq_true rfl
theorem low_sz (k : Nat) : (⟨(lowB k).toArray⟩ : ByteArray).size ≤ 1 := by
  unfold lowB
  split <;> exact Nat.le_of_ble_eq_true rfl
theorem two_low (f g x : Nat) : two f g ++ ⟨(lowB x).toArray⟩ = walk f g x := by
  unfold walk
  generalize lowB x = l
  apply ByteArray.ext
  rw [ByteArray.data_append]
  show #[_, _, _, _] ++ l.toArray = _
  simp
end N
end Go.Proofs.Ytldpejeodhkgdaa
