/- Drops and plain moves, read: plain. -/
import Derived.Test.YtldpejeodhkgdaaMvS
import Derived.Test.YtldpejeodhkgdaaLaw05
namespace Go.Proofs.Ytldpejeodhkgdaa
open Go.RowKit
namespace N
/-- A drop, read. -/
def DropR (s : ByteArray) (g y : Int) (ok : Bool) : Prop :=
  (ok = true ∧ ∃ b k : Nat, b < 64 ∧ (1 ≤ k ∧ k ≤ 5) ∧ g = (b : Int) ∧ y = (k : Int) ∧ s = drop k b) ∨ (ok = false ∧ ∀ b k : Nat, b < 64 → 1 ≤ k ∧ k ≤ 5 → s ≠ drop k b)
/-- A plain move, read. -/
def WalkR (s : ByteArray) (f g x : Int) (ok : Bool) : Prop :=
  (ok = true ∧ ∃ a b k : Nat, a < 64 ∧ b < 64 ∧ a ≠ b ∧ (k = 0 ∨ (2 ≤ k ∧ k ≤ 6)) ∧ f = (a : Int) ∧ g = (b : Int) ∧ x = (k : Int) ∧ s = walk a b k) ∨
  (ok = false ∧ ∀ a b k : Nat, a < 64 → b < 64 → a ≠ b → (k = 0 ∨ (2 ≤ k ∧ k ≤ 6)) → s ≠ walk a b k)
theorem bytes_eq {a b : ByteArray} (h : (a.toList == b.toList) = true) : a = b := by
  have h : a.toList = b.toList := by simpa using h
  rw [Lib.toList_data, Lib.toList_data] at h
  exact ByteArray.ext (Array.toList_inj.1 h)
theorem parsed_piece {s : ByteArray} {x : Int} (h : P.Parsed s x true) : ∃ n, n < 12 ∧ x = P.at n ∧ P.letter (P.at n) = s := by
  rcases h with ⟨_, n, hn, rfl, hy, _⟩ | ⟨h, _⟩
  · exact ⟨n, hn, rfl, bytes_eq hy⟩
  · cases h
theorem pieces_white : ∀ n : Fin 12, (P.color (P.at n.val) == 0 && decide (P.kind (P.at n.val) ≤ 5)) = true → 1 ≤ P.kind (P.at n.val) ∧ P.letter (P.at n.val) = ⟨#[upB (P.kind (P.at n.val)).toNat]⟩ := by decide +kernel
theorem pieces_up : ∀ k : Fin 6, 1 ≤ k.val → P.isB (k.val : Int) = true ∧ P.letter (k.val : Int) = ⟨#[upB k.val]⟩ ∧ P.color (k.val : Int) = 0 ∧ P.kind (k.val : Int) = (k.val : Int) := by decide +kernel
theorem pieces_black : ∀ n : Fin 12, (P.color (P.at n.val) == 1 && decide (1 < P.kind (P.at n.val))) = true → (2 ≤ P.kind (P.at n.val) ∧ P.kind (P.at n.val) ≤ 6) ∧ P.letter (P.at n.val) = ⟨(lowB (P.kind (P.at n.val)).toNat).toArray⟩ := by decide +kernel
theorem pieces_low : ∀ k : Fin 7, 2 ≤ k.val → P.isB ((8 + k.val : Nat) : Int) = true ∧ P.letter ((8 + k.val : Nat) : Int) = ⟨(lowB k.val).toArray⟩ ∧ P.color ((8 + k.val : Nat) : Int) = 1 ∧ P.kind ((8 + k.val : Nat) : Int) = (k.val : Int) := by decide +kernel
theorem dropR_of {p r t : UInt8} {x n : Int} {a b : Bool} (hp : P.Parsed ⟨#[p]⟩ x a) (hy : SqP ⟨#[r, t]⟩ n b) : DropR ⟨#[p, 64, r, t]⟩ n (P.kind x) (a && (b && (P.color x == 0 && decide (P.kind x ≤ 5)))) := by
  cases hc : (a && (b && (P.color x == 0 && decide (P.kind x ≤ 5))))
  · refine .inr ⟨rfl, fun d k hd hk e => ?_⟩
    have e := list_of (a := [p, 64, r, t]) (b := [_, _, _, _]) e
    simp only [List.cons.injEq, and_true, true_and] at e
    obtain ⟨e1, e2, e3⟩ := e
    obtain ⟨i1, i2, i3, i4⟩ := pieces_up ⟨k, by omega⟩ hk.1
    have hl := P.parsed_letter (k : Int) (by omega) i1
    rw [i2, ← e1] at hl
    obtain ⟨rfl, rfl⟩ := P.parsed_one hp hl
    rcases hy with ⟨rfl, _⟩ | ⟨_, _, hn⟩
    · rw [i3, i4] at hc
      have : decide ((k : Int) ≤ 5) = true := by simp; omega
      rw [this] at hc
      cases hc
    · exact hn d hd (by rw [e2, e3]; rfl)
  · simp only [Bool.and_eq_true] at hc
    obtain ⟨rfl, rfl, h1, h2⟩ := hc
    obtain ⟨i, hi, rfl, hl⟩ := parsed_piece hp
    obtain ⟨k1, k2⟩ := pieces_white ⟨i, hi⟩ (by simp only [Bool.and_eq_true]; exact ⟨h1, h2⟩)
    have k3 : P.kind (P.at i) ≤ 5 := by simpa using h2
    rw [hl] at k2
    have k2 := list_of (a := [p]) (b := [_]) k2
    simp only [List.cons.injEq, and_true] at k2
    rcases hy with ⟨_, d, hd, rfl, ed⟩ | ⟨h, _⟩
    · obtain ⟨rfl, rfl⟩ := tx_two' ed
      simp only at k1
      exact .inl ⟨rfl, d, (P.kind (P.at i)).toNat, hd, by omega, rfl, by omega, by rw [k2]; rfl⟩
    · cases h
theorem dropR_not {s : ByteArray} (h : s.size ≠ 4 ∨ ∃ p q r t, q ≠ 64 ∧ s = ⟨#[p, q, r, t]⟩) : DropR s 0 0 false := by
  refine .inr ⟨rfl, fun b k hb hk e => ?_⟩
  rcases h with h | ⟨p, q, r, t, hq, rfl⟩
  · exact h (by rw [e]; rfl)
  · have e := list_of (a := [p, q, r, t]) (b := [_, _, _, _]) e
    simp only [List.cons.injEq] at e
    exact hq e.2.1
theorem walkR_not {s : ByteArray} {f g : Int} (h : TwoR s f g false) : WalkR s 0 0 0 false := by
  rcases h with ⟨h, _⟩ | ⟨_, hn⟩
  · cases h
  · exact .inr ⟨rfl, fun a b k ha hb hne _ e => hn a b (lowB k) ha hb hne e⟩
theorem walkR_four {s : ByteArray} {f g : Int} (h : TwoR s f g true) (h4 : ¬ 4 < s.size) : WalkR s f g 0 true := by
  rcases h with ⟨_, a, b, l, ha, hb, hne, rfl, rfl, rfl⟩ | ⟨h, _⟩
  · have : l = [] := by
      cases l with
      | nil => rfl
      | cons x l => exact absurd (show 4 < (mk a b (x :: l)).size by show 4 < l.length + 1 + 4; omega) h4
    subst this
    exact .inl ⟨rfl, a, b, 0, ha, hb, hne, .inl rfl, rfl, rfl, rfl, rfl⟩
  · cases h
theorem walkR_five {s : ByteArray} {f g x : Int} {a : Bool} (h : TwoR s f g true) (h4 : 4 < s.size) (hp : P.Parsed (s.extract 4 s.size) x a) : WalkR s f g (P.kind x) (a && (P.color x == 1 && decide (1 < P.kind x))) := by
  rcases h with ⟨_, d, b, l, hd, hb, hne, rfl, rfl, rfl⟩ | ⟨h, _⟩
  · have hx : (mk d b l).extract 4 (mk d b l).size = ⟨l.toArray⟩ := ext4 _ _ _ _ l
    have hl0 : l ≠ [] := by
      rintro rfl
      exact absurd h4 (by show ¬ 4 < 4; omega)
    rw [hx] at hp
    cases hc : (a && (P.color x == 1 && decide (1 < P.kind x)))
    · refine .inr ⟨rfl, fun d' b' k hd' hb' hne' hk e => ?_⟩
      obtain ⟨_, _, e⟩ := mk_inj hd hb hd' hb' e
      rcases hk with rfl | hk
      · exact hl0 e
      · obtain ⟨i1, i2, i3, i4⟩ := pieces_low ⟨k, by omega⟩ hk.1
        have hl := P.parsed_letter ((8 + k : Nat) : Int) (by omega) i1
        rw [i2, ← e] at hl
        obtain ⟨rfl, rfl⟩ := P.parsed_one hp hl
        rw [i3, i4] at hc
        have : decide (1 < (k : Int)) = true := by simp; omega
        rw [this] at hc
        cases hc
    · simp only [Bool.and_eq_true] at hc
      obtain ⟨rfl, h1, h2⟩ := hc
      obtain ⟨i, hi, rfl, hl⟩ := parsed_piece hp
      obtain ⟨k1, k2⟩ := pieces_black ⟨i, hi⟩ (by simp only [Bool.and_eq_true]; exact ⟨h1, h2⟩)
      rw [hl] at k2
      have k2 := list_of k2
      simp only at k1
      exact .inl ⟨rfl, d, b, (P.kind (P.at i)).toNat, hd, hb, hne, .inr (by omega), rfl, rfl, by omega, by rw [walk_mk, ← k2]⟩
  · cases h
end N
end Go.Proofs.Ytldpejeodhkgdaa
