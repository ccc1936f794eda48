/- Moves' texts, plain: what is read. -/
import Derived.Test.YtldpejeodhkgdaaMvT
namespace Go.Proofs.Ytldpejeodhkgdaa
namespace N
def mk (a b : Nat) (l : List UInt8) : ByteArray := ⟨(UInt8.ofNat (97 + a % 8) :: UInt8.ofNat (49 + a / 8) :: UInt8.ofNat (97 + b % 8) :: UInt8.ofNat (49 + b / 8) :: l).toArray⟩
theorem walk_mk (a b x : Nat) : walk a b x = mk a b (lowB x) := rfl
theorem two_mk (a b : Nat) : two a b = mk a b [] := rfl
/-- A square, read. -/
def SqP (t : ByteArray) (n : Int) (ok : Bool) : Prop := (ok = true ∧ ∃ s : Nat, s < 64 ∧ n = (s : Int) ∧ t = tx s) ∨ (ok = false ∧ n = 0 ∧ ∀ s, s < 64 → t ≠ tx s)
theorem cut4 (s : ByteArray) (h : 4 ≤ s.size) : ∃ p q r t l, s = ⟨(p :: q :: r :: t :: l : List UInt8).toArray⟩ := by
  obtain ⟨⟨l⟩⟩ := s
  match l, h with
  | p :: q :: r :: t :: l, _ => exact ⟨p, q, r, t, l, rfl⟩
  | [], h => exact absurd h (by show ¬ 4 ≤ 0; omega)
  | [_], h => exact absurd h (by show ¬ 4 ≤ 1; omega)
  | [_, _], h => exact absurd h (by show ¬ 4 ≤ 2; omega)
  | [_, _, _], h => exact absurd h (by show ¬ 4 ≤ 3; omega)
section
variable (p q r t : UInt8) (l : List UInt8)
theorem size_of : (⟨(p :: q :: r :: t :: l : List UInt8).toArray⟩ : ByteArray).size = l.length + 4 := rfl
theorem ext_of (i j : Nat) (k : List UInt8) (h : ((p :: q :: r :: t :: l).take j).drop i = k) : (⟨(p :: q :: r :: t :: l : List UInt8).toArray⟩ : ByteArray).extract i j = ⟨k.toArray⟩ := by
  apply ByteArray.ext
  rw [ByteArray.data_extract]
  subst h
  simp [List.extract_toArray, List.extract_eq_drop_take']
theorem ext02 : (⟨(p :: q :: r :: t :: l : List UInt8).toArray⟩ : ByteArray).extract 0 2 = ⟨#[p, q]⟩ := ext_of p q r t l 0 2 [p, q] rfl
theorem ext24 : (⟨(p :: q :: r :: t :: l : List UInt8).toArray⟩ : ByteArray).extract 2 4 = ⟨#[r, t]⟩ := ext_of p q r t l 2 4 [r, t] rfl
theorem ext01 : (⟨(p :: q :: r :: t :: l : List UInt8).toArray⟩ : ByteArray).extract 0 1 = ⟨#[p]⟩ := ext_of p q r t l 0 1 [p] rfl
theorem ext4 : (⟨(p :: q :: r :: t :: l : List UInt8).toArray⟩ : ByteArray).extract 4 (l.length + 4) = ⟨l.toArray⟩ := ext_of p q r t l 4 (l.length + 4) l (by simp)
end
theorem tx_two' {a b : UInt8} {s : Nat} (h : (⟨#[a, b]⟩ : ByteArray) = tx s) : a = UInt8.ofNat (97 + s % 8) ∧ b = UInt8.ofNat (49 + s / 8) := by
  have := list_of (a := [a, b]) (b := [_, _]) h
  simp only [List.cons.injEq, and_true] at this
  exact this
/-- Two squares, read. -/
def TwoR (s : ByteArray) (f g : Int) (ok : Bool) : Prop :=
  (ok = true ∧ ∃ (a b : Nat) (l : List UInt8), a < 64 ∧ b < 64 ∧ a ≠ b ∧ f = (a : Int) ∧ g = (b : Int) ∧ s = mk a b l) ∨
  (ok = false ∧ ∀ (a b : Nat) (l : List UInt8), a < 64 → b < 64 → a ≠ b → s ≠ mk a b l)
theorem mk_inj {a b a' b' : Nat} {l l' : List UInt8} (ha : a < 64) (hb : b < 64) (ha' : a' < 64) (hb' : b' < 64) (h : mk a b l = mk a' b' l') : a = a' ∧ b = b' ∧ l = l' := by
  have h := list_of h
  simp only [List.cons.injEq] at h
  exact ⟨sq_inj ha ha' h.1 h.2.1, sq_inj hb hb' h.2.2.1 h.2.2.2.1, h.2.2.2.2⟩
theorem twoR_short {s : ByteArray} (h : s.size < 4) : TwoR s 0 0 false := .inr ⟨rfl, fun a b l _ _ _ e => by rw [e, mk, size_of] at h; omega⟩
theorem twoR_of {s : ByteArray} {n m : Int} {x y : Bool} (h : 4 ≤ s.size) (hx : SqP (s.extract 0 2) n x) (hy : SqP (s.extract 2 4) m y) : TwoR s n m (x && (y && (n != m))) := by
  obtain ⟨p, q, r, t, l, rfl⟩ := cut4 s h
  rw [ext02] at hx
  rw [ext24] at hy
  rcases hx with ⟨rfl, a, ha, rfl, ea⟩ | ⟨rfl, rfl, hn⟩
  · obtain ⟨rfl, rfl⟩ := tx_two' ea
    rcases hy with ⟨rfl, b, hb, rfl, eb⟩ | ⟨rfl, rfl, hn⟩
    · obtain ⟨rfl, rfl⟩ := tx_two' eb
      by_cases hab : a = b
      · refine .inr ⟨by subst hab; simp, fun a' b' l' ha' hb' hne e => ?_⟩
        obtain ⟨e1, e2, _⟩ := mk_inj ha hb ha' hb' e
        omega
      · exact .inl ⟨by simp; omega, a, b, l, ha, hb, hab, rfl, rfl, rfl⟩
    · refine .inr ⟨rfl, fun a' b' l' ha' hb' hne e => ?_⟩
      have e := list_of e
      simp only [List.cons.injEq] at e
      exact hn b' hb' (by rw [e.2.2.1, e.2.2.2.1]; rfl)
  · refine .inr ⟨rfl, fun a' b' l' ha' hb' hne e => ?_⟩
    have e := list_of e
    simp only [List.cons.injEq] at e
    exact hn a' ha' (by rw [e.1, e.2.1]; rfl)
end N
end Go.Proofs.Ytldpejeodhkgdaa
