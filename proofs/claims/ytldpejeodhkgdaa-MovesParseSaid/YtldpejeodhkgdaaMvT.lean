/- Moves' texts, plain: which text a move has; two moves with one text are the same. -/
import Derived.Test.YtldpejeodhkgdaaPieces
namespace Go.Proofs.Ytldpejeodhkgdaa
namespace N
/-- A square's text. -/
def tx (s : Nat) : ByteArray := ⟨#[UInt8.ofNat (97 + s % 8), UInt8.ofNat (49 + s / 8)]⟩
def two (f g : Nat) : ByteArray := ⟨#[UInt8.ofNat (97 + f % 8), UInt8.ofNat (49 + f / 8), UInt8.ofNat (97 + g % 8), UInt8.ofNat (49 + g / 8)]⟩
theorem tx_two (f g : Nat) : tx f ++ tx g = two f g := rfl
def lowB : Nat → List UInt8
  | 2 => [110] | 3 => [98] | 4 => [114] | 5 => [113] | 6 => [107] | _ => []
def upB : Nat → UInt8
  | 1 => 80 | 2 => 78 | 3 => 66 | 4 => 82 | _ => 81
/-- A plain move's text. -/
def walk (f g x : Nat) : ByteArray := ⟨(UInt8.ofNat (97 + f % 8) :: UInt8.ofNat (49 + f / 8) :: UInt8.ofNat (97 + g % 8) :: UInt8.ofNat (49 + g / 8) :: lowB x).toArray⟩
/-- A drop's text. -/
def drop (y g : Nat) : ByteArray := ⟨#[upB y, 64, UInt8.ofNat (97 + g % 8), UInt8.ofNat (49 + g / 8)]⟩
def home (c : Nat → Int) : Nat := 56 * (c 78).toNat
def king (c : Nat → Int) (f : Nat) : Bool := c (1 + f) == P.make (c 78) 6
def rk (c : Nat → Int) (k : Nat) : Int := c (79 + 2 * (c 78).toNat + k)
def sideOk (c : Nat → Int) (k : Nat) : Bool := king c (home c + 4) && (decide (0 ≤ rk c k) && (decide (rk c k < 8) && (rk c k != 4 && (decide (4 < rk c k) == (k == 0)))))
def goal (k : Nat) : Nat := if k = 0 then 6 else 2
/-- A castling's text. -/
def IsCas (c : Nat → Int) (f g : Nat) (s : ByteArray) : Prop :=
  f < 64 ∧ g < 64 ∧ f ≠ g ∧ ((c 0 = 1 ∧ king c f = true ∧ c (1 + g) = P.make (c 78) 4 ∧ s = two f g) ∨
    (c 0 ≠ 1 ∧ ∃ k, k < 2 ∧ sideOk c k = true ∧ f = home c + 4 ∧ (g : Int) = (home c : Int) + rk c k ∧ s = two f (home c + goal k)))
def known (c : Nat → Int) : Prop := (0 ≤ c 0 ∧ c 0 < 9) ∧ (0 ≤ c 78 ∧ c 78 ≤ 1)
/-- A move's text. -/
def Text (c : Nat → Int) (f g x y : Int) (z : Bool) (s : ByteArray) : Prop :=
  known c ∧ ((0 ≤ f ∧ f < 64) ∧ (0 ≤ g ∧ g < 64)) ∧
    (((1 ≤ y ∧ y ≤ 5) ∧ f = g ∧ x = 0 ∧ z = false ∧ s = drop y.toNat g.toNat) ∨
     (y = 0 ∧ f ≠ g ∧ x = 0 ∧ z = true ∧ IsCas c f.toNat g.toNat s) ∨
     (y = 0 ∧ f ≠ g ∧ (x = 0 ∨ (2 ≤ x ∧ x ≤ 6)) ∧ z = false ∧ s = walk f.toNat g.toNat x.toNat ∧ ¬ ∃ a b, IsCas c a b s))
theorem ofNat_inj {a b : Nat} (ha : a < 256) (hb : b < 256) (h : UInt8.ofNat a = UInt8.ofNat b) : a = b := by
  have := congrArg UInt8.toNat h
  rwa [UInt8.toNat_ofNat', UInt8.toNat_ofNat', Nat.mod_eq_of_lt (by omega), Nat.mod_eq_of_lt (by omega)] at this
theorem sq_inj {f g : Nat} (hf : f < 64) (hg : g < 64) (h1 : UInt8.ofNat (97 + f % 8) = UInt8.ofNat (97 + g % 8)) (h2 : UInt8.ofNat (49 + f / 8) = UInt8.ofNat (49 + g / 8)) : f = g := by
  have := ofNat_inj (by omega) (by omega) h1
  have := ofNat_inj (by omega) (by omega) h2
  omega
theorem list_of {a b : List UInt8} (h : (⟨a.toArray⟩ : ByteArray) = ⟨b.toArray⟩) : a = b := by
  injection h with h
  injection h
theorem two_inj {f g f' g' : Nat} (hf : f < 64) (hg : g < 64) (hf' : f' < 64) (hg' : g' < 64) (h : two f g = two f' g') : f = f' ∧ g = g' := by
  have h := list_of h
  simp only [List.cons.injEq] at h
  exact ⟨sq_inj hf hf' h.1 h.2.1, sq_inj hg hg' h.2.2.1 h.2.2.2.1⟩
theorem lowB_inj {x x' : Nat} (hx : x = 0 ∨ (2 ≤ x ∧ x ≤ 6)) (hx' : x' = 0 ∨ (2 ≤ x' ∧ x' ≤ 6)) (h : lowB x = lowB x') : x = x' := by
  rcases (show x = 0 ∨ x = 2 ∨ x = 3 ∨ x = 4 ∨ x = 5 ∨ x = 6 by omega) with rfl | rfl | rfl | rfl | rfl | rfl <;>
  rcases (show x' = 0 ∨ x' = 2 ∨ x' = 3 ∨ x' = 4 ∨ x' = 5 ∨ x' = 6 by omega) with rfl | rfl | rfl | rfl | rfl | rfl <;>
  first | rfl | (exact absurd h (by decide))
theorem upB_inj {x x' : Nat} (hx : 1 ≤ x ∧ x ≤ 5) (hx' : 1 ≤ x' ∧ x' ≤ 5) (h : upB x = upB x') : x = x' := by
  rcases (show x = 1 ∨ x = 2 ∨ x = 3 ∨ x = 4 ∨ x = 5 by omega) with rfl | rfl | rfl | rfl | rfl <;>
  rcases (show x' = 1 ∨ x' = 2 ∨ x' = 3 ∨ x' = 4 ∨ x' = 5 by omega) with rfl | rfl | rfl | rfl | rfl <;>
  first | rfl | (exact absurd h (by decide))
theorem walk_inj {f g x f' g' x' : Nat} (hf : f < 64) (hg : g < 64) (hf' : f' < 64) (hg' : g' < 64) (hx : x = 0 ∨ (2 ≤ x ∧ x ≤ 6)) (hx' : x' = 0 ∨ (2 ≤ x' ∧ x' ≤ 6)) (h : walk f g x = walk f' g' x') : f = f' ∧ g = g' ∧ x = x' := by
  have h := list_of h
  simp only [List.cons.injEq] at h
  exact ⟨sq_inj hf hf' h.1 h.2.1, sq_inj hg hg' h.2.2.1 h.2.2.2.1, lowB_inj hx hx' h.2.2.2.2⟩
theorem drop_inj {y g y' g' : Nat} (hy : 1 ≤ y ∧ y ≤ 5) (hg : g < 64) (hy' : 1 ≤ y' ∧ y' ≤ 5) (hg' : g' < 64) (h : drop y g = drop y' g') : y = y' ∧ g = g' := by
  have h := list_of h
  simp only [List.cons.injEq] at h
  exact ⟨upB_inj hy hy' h.1, sq_inj hg hg' h.2.2.1 h.2.2.2.1⟩
/-- No drop's text is one of two squares. -/
theorem drop_two {y g f' g' : Nat} {l : List UInt8} (hf : f' < 64) (h : drop y g = ⟨(UInt8.ofNat (97 + f' % 8) :: UInt8.ofNat (49 + f' / 8) :: UInt8.ofNat (97 + g' % 8) :: UInt8.ofNat (49 + g' / 8) :: l).toArray⟩) : False := by
  have h := list_of h
  simp only [List.cons.injEq] at h
  have := ofNat_inj (a := 64) (by omega) (by omega) h.2.1
  omega
theorem goal_inj {j k : Nat} (hj : j < 2) (hk : k < 2) (h : goal j = goal k) : j = k := by
  unfold goal at h
  split at h <;> split at h <;> omega
theorem cas_one {c : Nat → Int} {f g f' g' : Nat} {s : ByteArray} (h78 : 0 ≤ c 78 ∧ c 78 ≤ 1) (h : IsCas c f g s) (h' : IsCas c f' g' s) : f = f' ∧ g = g' := by
  obtain ⟨hf, hg, hne, h⟩ := h
  obtain ⟨hf', hg', hne', h'⟩ := h'
  have hh : home c = 0 ∨ home c = 56 := by unfold home; omega
  rcases h with ⟨h0, h1, h2, rfl⟩ | ⟨h0, k, hk, h1, h2, h3, rfl⟩
  · rcases h' with ⟨_, _, _, e⟩ | ⟨h0', _⟩
    · exact two_inj hf hg hf' hg' e
    · exact absurd h0 h0'
  · rcases h' with ⟨h0', _⟩ | ⟨_, j, hj, h1', h2', h3', e⟩
    · exact absurd h0' h0
    · have hk8 : goal k < 8 := by unfold goal; split <;> omega
      have hj8 : goal j < 8 := by unfold goal; split <;> omega
      obtain ⟨e1, e2⟩ := two_inj hf (by omega) hf' (by omega) e
      have : k = j := goal_inj hk hj (by omega)
      subst this
      exact ⟨e1, by omega⟩
theorem cas_two {c : Nat → Int} {f g : Nat} {s : ByteArray} (h78 : 0 ≤ c 78 ∧ c 78 ≤ 1) (h : IsCas c f g s) : ∃ a b, a < 64 ∧ b < 64 ∧ s = two a b := by
  obtain ⟨hf, hg, hne, h⟩ := h
  have hh : home c = 0 ∨ home c = 56 := by unfold home; omega
  rcases h with ⟨h0, h1, h2, rfl⟩ | ⟨h0, k, hk, h1, h2, h3, rfl⟩
  · exact ⟨f, g, hf, hg, rfl⟩
  · exact ⟨f, home c + goal k, hf, by unfold goal; split <;> omega, rfl⟩
/-- Two moves with one text are the same. -/
theorem text_one {c : Nat → Int} {f g x y f' g' x' y' : Int} {z z' : Bool} {s : ByteArray} (h : Text c f g x y z s) (h' : Text c f' g' x' y' z' s) : f = f' ∧ g = g' ∧ x = x' ∧ y = y' ∧ z = z' := by
  obtain ⟨hk, ⟨hf, hg⟩, h⟩ := h
  obtain ⟨_, ⟨hf', hg'⟩, h'⟩ := h'
  have h78 := hk.2
  rcases h with ⟨hy, rfl, rfl, rfl, hs⟩ | ⟨rfl, hne, rfl, rfl, hc⟩ | ⟨rfl, hne, hx, rfl, hs, hn⟩
  · rcases h' with ⟨hy', rfl, rfl, rfl, hs'⟩ | ⟨rfl, hne', rfl, rfl, hc'⟩ | ⟨rfl, hne', hx', rfl, hs', hn'⟩
    · obtain ⟨e1, e2⟩ := drop_inj (by omega) (by omega) (by omega) (by omega) (hs.symm.trans hs')
      exact ⟨by omega, by omega, rfl, by omega, rfl⟩
    · obtain ⟨a, b, ha, hb, e⟩ := cas_two h78 hc'
      exact (drop_two (l := []) ha (hs.symm.trans e)).elim
    · exact (drop_two (by omega) (hs.symm.trans hs')).elim
  · rcases h' with ⟨hy', rfl, rfl, rfl, hs'⟩ | ⟨rfl, hne', rfl, rfl, hc'⟩ | ⟨rfl, hne', hx', rfl, hs', hn'⟩
    · obtain ⟨a, b, ha, hb, e⟩ := cas_two h78 hc
      exact (drop_two (l := []) ha (hs'.symm.trans e)).elim
    · obtain ⟨e1, e2⟩ := cas_one h78 hc hc'
      exact ⟨by omega, by omega, rfl, rfl, rfl⟩
    · exact (hn' ⟨_, _, hc⟩).elim
  · rcases h' with ⟨hy', rfl, rfl, rfl, hs'⟩ | ⟨rfl, hne', rfl, rfl, hc'⟩ | ⟨rfl, hne', hx', rfl, hs', hn'⟩
    · exact (drop_two (by omega) (hs'.symm.trans hs)).elim
    · exact (hn ⟨_, _, hc'⟩).elim
    · obtain ⟨e1, e2, e3⟩ := walk_inj (by omega) (by omega) (by omega) (by omega) (by omega) (by omega) (hs.symm.trans hs')
      exact ⟨by omega, by omega, by omega, rfl, rfl⟩
/-- A move has one text. -/
theorem cas_fun {c : Nat → Int} {f g : Nat} {s s' : ByteArray} (h : IsCas c f g s) (h' : IsCas c f g s') : s = s' := by
  obtain ⟨hf, hg, hne, h⟩ := h
  obtain ⟨hf', hg', hne', h'⟩ := h'
  rcases h with ⟨h0, h1, h2, rfl⟩ | ⟨h0, k, hk, h1, h2, h3, rfl⟩
  · rcases h' with ⟨_, _, _, e⟩ | ⟨h0', _⟩
    · exact e.symm
    · exact absurd h0 h0'
  · rcases h' with ⟨h0', _⟩ | ⟨_, j, hj, h1', h2', h3', e⟩
    · exact absurd h0' h0
    · have : k = j := by
        unfold sideOk at h1 h1'
        simp only [Bool.and_eq_true, decide_eq_true_eq, bne_iff_ne, ne_eq, beq_iff_eq] at h1 h1'
        obtain ⟨_, _, _, _, ek⟩ := h1
        obtain ⟨_, _, _, _, ej⟩ := h1'
        have hr : rk c k = rk c j := by omega
        rw [hr, ej] at ek
        rcases (show k = 0 ∨ k = 1 by omega) with rfl | rfl <;> rcases (show j = 0 ∨ j = 1 by omega) with rfl | rfl <;> first | rfl | (exact absurd ek (by decide))
      subst this
      exact e.symm
theorem text_fun {c : Nat → Int} {f g x y : Int} {z : Bool} {s s' : ByteArray} (h : Text c f g x y z s) (h' : Text c f g x y z s') : s = s' := by
  obtain ⟨hk, ⟨hf, hg⟩, h⟩ := h
  obtain ⟨_, _, h'⟩ := h'
  rcases h with ⟨hy, hfg, hx, hz, hs⟩ | ⟨hy, hne, hx, hz, hc⟩ | ⟨hy, hne, hx, hz, hs, hn⟩
  · rcases h' with ⟨_, _, _, _, hs'⟩ | ⟨hy', _⟩ | ⟨hy', _⟩
    · exact hs.trans hs'.symm
    · omega
    · omega
  · rcases h' with ⟨hy', _⟩ | ⟨_, _, _, _, hc'⟩ | ⟨_, _, _, hz', _⟩
    · omega
    · exact cas_fun hc hc'
    · rw [hz] at hz'; exact absurd hz' (by decide)
  · rcases h' with ⟨hy', _⟩ | ⟨_, _, _, hz', _⟩ | ⟨_, _, _, _, hs', _⟩
    · omega
    · rw [hz] at hz'; exact absurd hz' (by decide)
    · exact hs.trans hs'.symm
theorem text_ne {c : Nat → Int} {f g x y : Int} {z : Bool} {s : ByteArray} (h : Text c f g x y z s) : s ≠ ⟨#[]⟩ := by
  obtain ⟨hk, _, h⟩ := h
  rcases h with ⟨_, _, _, _, rfl⟩ | ⟨_, _, _, _, hc⟩ | ⟨_, _, _, _, rfl, _⟩
  · exact fun e => absurd (list_of e) (by simp)
  · obtain ⟨a, b, _, _, rfl⟩ := cas_two hk.2 hc
    exact fun e => absurd (list_of e) (by simp)
  · exact fun e => absurd (list_of e) (by simp)
end N
end Go.Proofs.Ytldpejeodhkgdaa
