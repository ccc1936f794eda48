/- Moves: the chapter's examples, plain. -/
import Derived.Test.YtldpejeodhkgdaaDoorMvN
import Derived.Test.YtldpejeodhkgdaaDoorMvO
import Derived.Test.YtldpejeodhkgdaaDoorStartC
namespace Go.Proofs.YtldpejeodhkgdaaDoor
open Go.RowKit

namespace N
theorem byte_eq {n : Nat} {b : Nat} (hn : n < 256) (hb : b < 256) (h : UInt8.ofNat n = UInt8.ofNat b) : n = b := ofNat_inj hn hb h
/-- No castling has such a text: other variants, White. -/
theorem no_std {c : Nat → Int} {s : ByteArray} (h0 : c 0 ≠ 1) (h78 : c 78 = 0) (h1 : s ≠ two 4 6) (h2 : s ≠ two 4 2) : ¬ ∃ a b, IsCas c a b s := by
  rintro ⟨a, b, _, _, _, h⟩
  have hh : home c = 0 := by unfold home; rw [h78]; rfl
  rcases h with ⟨h, _⟩ | ⟨_, k, hk, _, rfl, _, e⟩
  · exact h0 h
  · rw [hh] at e
    rcases (show k = 0 ∨ k = 1 by omega) with rfl | rfl
    · exact h1 e
    · exact h2 e
theorem is_std {c : Nat → Int} {b k : Nat} (h0 : c 0 ≠ 1) (h78 : c 78 = 0) (hk : k < 2) (hs : sideOk c k = true) (hr : c (79 + k) = (b : Int)) (hb : b < 8) (hne : b ≠ 4) : IsCas c 4 b (two 4 (goal k)) := by
  have hh : home c = 0 := by unfold home; rw [h78]; rfl
  have hq : rk c k = (b : Int) := by
    unfold rk
    rw [h78]
    exact hr
  exact ⟨by omega, by omega, by omega, .inr ⟨h0, k, hk, hs, by rw [hh], by rw [hh, hq]; simp, by rw [hh, Nat.zero_add]⟩⟩
theorem end_of {c : Nat → Int} {f g x y : Int} {z : Bool} {s u : ByteArray} (h : TextEnd c f g x y z s) (h' : Text c f g x y z u) : s = u := textEnd_one h (.inl h')
theorem end_none {c : Nat → Int} {f g x y : Int} {z : Bool} {s : ByteArray} (h : TextEnd c f g x y z s) (h' : ∀ u, ¬ Text c f g x y z u) : s = ⟨#[]⟩ := textEnd_one h (.inr ⟨rfl, h'⟩)
theorem parse_ok {c : Nat → Int} {s : ByteArray} {f g x y f' g' x' y' e : Int} {z z' : Bool} (h : ParseEnd c s f g x y z e) (h' : Text c f' g' x' y' z' s) : e = 0 ∧ f = f' ∧ g = g' ∧ x = x' ∧ y = y' ∧ z = z' := by
  rcases h with ⟨rfl, h⟩ | ⟨_, ⟨_, h⟩ | ⟨_, _, h⟩⟩
  · exact ⟨rfl, text_one h h'⟩
  · exact absurd h'.1 h
  · exact absurd h' (h _ _ _ _ _)
theorem parse_bad {c : Nat → Int} {s : ByteArray} {f g x y e : Int} {z : Bool} (hk : known c) (h : ParseEnd c s f g x y z e) (h' : ∀ f g x y z, ¬ Text c f g x y z s) : e = 5 ∧ f = 0 ∧ g = 0 ∧ x = 0 ∧ y = 0 ∧ z = false := by
  rcases h with ⟨_, h⟩ | ⟨h, ⟨_, h2⟩ | ⟨rfl, _⟩⟩
  · exact absurd h (h' _ _ _ _ _)
  · exact absurd hk h2
  · exact ⟨rfl, h⟩
theorem parse_arg {c : Nat → Int} {s : ByteArray} {f g x y e : Int} {z : Bool} (hk : ¬ known c) (h : ParseEnd c s f g x y z e) : e = 2 ∧ f = 0 ∧ g = 0 ∧ x = 0 ∧ y = 0 ∧ z = false := by
  rcases h with ⟨_, h⟩ | ⟨h, ⟨rfl, _⟩ | ⟨_, h2, _⟩⟩
  · exact absurd h.1 hk
  · exact ⟨rfl, h⟩
  · exact absurd h2 hk
/-- What is neither a drop's text nor that of two squares is none's. -/
theorem no_text {c : Nat → Int} {s : ByteArray} (hd : ∀ k b : Nat, 1 ≤ k ∧ k ≤ 5 → b < 64 → s ≠ drop k b) (hw : ∀ a b k : Nat, a < 64 → b < 64 → a ≠ b → (k = 0 ∨ (2 ≤ k ∧ k ≤ 6)) → s ≠ walk a b k) : ∀ f g x y z, ¬ Text c f g x y z s := by
  rintro f g x y z ⟨hk, ⟨hf, hg⟩, h⟩
  rcases h with ⟨h1, _, _, _, e⟩ | ⟨_, _, _, _, h⟩ | ⟨_, h1, h2, _, e, _⟩
  · exact hd _ _ (by omega) (by omega) e
  · obtain ⟨ha, hb, hne, h⟩ := h
    have hh : home c = 0 ∨ home c = 56 := by unfold home; have := hk.2; omega
    rcases h with ⟨_, _, _, e⟩ | ⟨_, k, hk2, _, h1, _, e⟩
    · exact hw _ _ 0 ha hb hne (.inl rfl) e
    · have hgl : goal k = 6 ∨ goal k = 2 := by unfold goal; split <;> omega
      exact hw _ _ 0 ha (by omega) (by omega) (.inl rfl) e
  · exact hw f.toNat g.toNat x.toNat (by omega) (by omega) (by omega) (by omega) e
theorem no_e2e2 (c : Nat → Int) : ∀ f g x y z, ¬ Text c f g x y z ⟨#[101, 50, 101, 50]⟩ := no_text
  (fun k b _ _ e => by
    have e := list_of (a := [101, 50, 101, 50]) (b := [_, _, _, _]) e
    simp only [List.cons.injEq] at e
    exact absurd e.2.1 (by decide))
  (fun a b k ha hb hne _ e => by
    have e : (⟨([101, 50, 101, 50] : List UInt8).toArray⟩ : ByteArray) = _ := e
    have e := list_of e
    simp only [List.cons.injEq] at e
    have e1 := byte_eq (n := 101) (by omega) (by omega) e.1
    have e2 := byte_eq (n := 50) (by omega) (by omega) e.2.1
    have e3 := byte_eq (n := 101) (by omega) (by omega) e.2.2.1
    have e4 := byte_eq (n := 50) (by omega) (by omega) e.2.2.2.1
    omega)
theorem no_e2 (c : Nat → Int) : ∀ f g x y z, ¬ Text c f g x y z ⟨#[101, 50]⟩ := no_text
  (fun k b _ _ e => by
    have e := list_of (a := [101, 50]) (b := [_, _, _, _]) e
    simp at e)
  (fun a b k ha hb hne _ e => by
    have e : (⟨([101, 50] : List UInt8).toArray⟩ : ByteArray) = _ := e
    have e := list_of e
    simp at e)
theorem no_e2e9 (c : Nat → Int) : ∀ f g x y z, ¬ Text c f g x y z ⟨#[101, 50, 101, 57]⟩ := no_text
  (fun k b _ _ e => by
    have e := list_of (a := [101, 50, 101, 57]) (b := [_, _, _, _]) e
    simp only [List.cons.injEq] at e
    exact absurd e.2.1 (by decide))
  (fun a b k ha hb hne _ e => by
    have e : (⟨([101, 50, 101, 57] : List UInt8).toArray⟩ : ByteArray) = _ := e
    have e := list_of e
    simp only [List.cons.injEq] at e
    have e4 := byte_eq (n := 57) (by omega) (by omega) e.2.2.2.1
    omega)
theorem no_e2e4p (c : Nat → Int) : ∀ f g x y z, ¬ Text c f g x y z ⟨#[101, 50, 101, 52, 112]⟩ := no_text
  (fun k b _ _ e => by
    have e := list_of (a := [101, 50, 101, 52, 112]) (b := [_, _, _, _]) e
    simp at e)
  (fun a b k ha hb hne hk e => by
    have e : (⟨([101, 50, 101, 52, 112] : List UInt8).toArray⟩ : ByteArray) = _ := e
    have e := list_of e
    simp only [List.cons.injEq] at e
    have e5 := e.2.2.2.2
    rcases (show k = 0 ∨ k = 2 ∨ k = 3 ∨ k = 4 ∨ k = 5 ∨ k = 6 by omega) with rfl | rfl | rfl | rfl | rfl | rfl <;> exact absurd e5 (by decide))
theorem no_nf3 (c : Nat → Int) : ∀ f g x y z, ¬ Text c f g x y z ⟨#[110, 64, 102, 51]⟩ := no_text
  (fun k b hk _ e => by
    have e := list_of (a := [110, 64, 102, 51]) (b := [_, _, _, _]) e
    simp only [List.cons.injEq] at e
    have e1 := e.1
    rcases (show k = 1 ∨ k = 2 ∨ k = 3 ∨ k = 4 ∨ k = 5 by omega) with rfl | rfl | rfl | rfl | rfl <;> exact absurd e1 (by decide))
  (fun a b k ha hb hne _ e => by
    have e : (⟨([110, 64, 102, 51] : List UInt8).toArray⟩ : ByteArray) = _ := e
    have e := list_of e
    simp only [List.cons.injEq] at e
    have e2 := byte_eq (n := 64) (by omega) (by omega) e.2.1
    omega)
theorem no_Nf9 (c : Nat → Int) : ∀ f g x y z, ¬ Text c f g x y z ⟨#[78, 64, 102, 57]⟩ := no_text
  (fun k b hk hb e => by
    have e := list_of (a := [78, 64, 102, 57]) (b := [_, _, _, _]) e
    simp only [List.cons.injEq] at e
    have e4 := byte_eq (n := 57) (by omega) (by omega) e.2.2.2.1
    omega)
  (fun a b k ha hb hne _ e => by
    have e : (⟨([78, 64, 102, 57] : List UInt8).toArray⟩ : ByteArray) = _ := e
    have e := list_of e
    simp only [List.cons.injEq] at e
    have e2 := byte_eq (n := 64) (by omega) (by omega) e.2.1
    omega)
/-! ### The first positions -/
def sA : Nat → Int := V.start 0
def sB : Nat → Int := V.start 1
def sC : Nat → Int := V.start 2
theorem sA_ok : PosOk sA := by unfold PosOk; decide +kernel
theorem sB_ok : PosOk sB := by unfold PosOk; decide +kernel
theorem sC_ok : PosOk sC := by unfold PosOk; decide +kernel
theorem sA_known : known sA := by unfold known; decide +kernel
theorem sB_known : known sB := by unfold known; decide +kernel
theorem sC_known : known sC := by unfold known; decide +kernel
theorem sA_no {s : ByteArray} (h1 : s ≠ two 4 6) (h2 : s ≠ two 4 2) : ¬ ∃ a b, IsCas sA a b s := no_std (by decide +kernel) (by decide +kernel) h1 h2
theorem sC_no {s : ByteArray} (h1 : s ≠ two 4 6) (h2 : s ≠ two 4 2) : ¬ ∃ a b, IsCas sC a b s := no_std (by decide +kernel) (by decide +kernel) h1 h2
theorem sA_short : IsCas sA 4 7 (two 4 6) := is_std (k := 0) (by decide +kernel) (by decide +kernel) (by decide) (by decide +kernel) (by decide +kernel) (by decide) (by decide)
theorem sA_long : IsCas sA 4 0 (two 4 2) := is_std (k := 1) (by decide +kernel) (by decide +kernel) (by decide) (by decide +kernel) (by decide +kernel) (by decide) (by decide)
theorem sB_short : IsCas sB 4 7 (two 4 7) := ⟨by decide, by decide, by decide, .inl ⟨by decide +kernel, by decide +kernel, by decide +kernel, rfl⟩⟩
theorem sB_no46 : ¬ ∃ a b, IsCas sB a b (two 4 6) := by
  rintro ⟨a, b, h⟩
  obtain ⟨ha, hb, _, e⟩ := cas9_two (by decide +kernel) h
  obtain ⟨rfl, rfl⟩ := two_inj (by decide) (by decide) ha hb e
  rcases h.2.2.2 with ⟨_, _, h4, _⟩ | ⟨h1, _⟩
  · exact absurd h4 (by decide +kernel)
  · exact h1 (by decide +kernel)
theorem sA1 : Text sA 12 28 0 0 false ⟨#[101, 50, 101, 52]⟩ := ⟨sA_known, by decide, .inr (.inr ⟨rfl, by decide, .inl rfl, rfl, rfl, sA_no (by decide) (by decide)⟩)⟩
theorem sA2 : Text sA 52 60 5 0 false ⟨#[101, 55, 101, 56, 113]⟩ := ⟨sA_known, by decide, .inr (.inr ⟨rfl, by decide, .inr (by decide), rfl, rfl, sA_no (by decide) (by decide)⟩)⟩
theorem sA3 : Text sA 4 7 0 0 true ⟨#[101, 49, 103, 49]⟩ := ⟨sA_known, by decide, .inr (.inl ⟨rfl, by decide, rfl, rfl, sA_short⟩)⟩
theorem sA4 : ∀ u, ¬ Text sA 4 6 0 0 false u := by
  intro u h
  rcases h.2.2 with ⟨h1, _⟩ | ⟨_, _, _, h1, _⟩ | ⟨_, _, _, _, rfl, hn⟩
  · omega
  · cases h1
  · exact hn ⟨4, 7, sA_short⟩
theorem sB1 : Text sB 4 7 0 0 true ⟨#[101, 49, 104, 49]⟩ := ⟨sB_known, by decide, .inr (.inl ⟨rfl, by decide, rfl, rfl, sB_short⟩)⟩
theorem sB2 : ∀ u, ¬ Text sB 4 7 0 0 false u := by
  intro u h
  rcases h.2.2 with ⟨h1, _⟩ | ⟨_, _, _, h1, _⟩ | ⟨_, _, _, _, rfl, hn⟩
  · omega
  · cases h1
  · exact hn ⟨4, 7, sB_short⟩
theorem sB3 : Text sB 4 6 0 0 false ⟨#[101, 49, 103, 49]⟩ := ⟨sB_known, by decide, .inr (.inr ⟨rfl, by decide, .inl rfl, rfl, rfl, sB_no46⟩)⟩
theorem sC1 : Text sC 21 21 0 2 false ⟨#[78, 64, 102, 51]⟩ := ⟨sC_known, by decide, .inl ⟨by decide, rfl, rfl, rfl, rfl⟩⟩
theorem sC2 : ∀ u, ¬ Text sC 21 21 0 6 false u := by
  intro u h
  rcases h.2.2 with ⟨h1, _⟩ | ⟨h1, _⟩ | ⟨h1, _⟩ <;> omega
theorem sA5 : Text sA 4 0 0 0 true ⟨#[101, 49, 99, 49]⟩ := ⟨sA_known, by decide, .inr (.inl ⟨rfl, by decide, rfl, rfl, sA_long⟩)⟩
theorem sA6 : Text sA 4 5 0 0 false ⟨#[101, 49, 102, 49]⟩ := ⟨sA_known, by decide, .inr (.inr ⟨rfl, by decide, .inl rfl, rfl, rfl, sA_no (by decide) (by decide)⟩)⟩
end N
end Go.Proofs.YtldpejeodhkgdaaDoor
