/- Moves and boards as a law's arguments. -/
import Derived.Test.YtldpejeodhkgdaaShut
namespace Go.Proofs.Ytldpejeodhkgdaa
open Go.RowKit Go.ChangeShapes Go.WideShapes

/-- A move's cells. -/
def movC (f g a b : Int) (ca : Bool) : Array Value := #[.int .i8 f, .int .i8 g, .int .u8 a, .int .u8 b, .bool ca]
def MovOk (f g a b : Int) : Prop := (-128 ≤ f ∧ f ≤ 127) ∧ (-128 ≤ g ∧ g ≤ 127) ∧ (0 ≤ a ∧ a ≤ 255) ∧ (0 ≤ b ∧ b ≤ 255)
theorem Try.movFlat : flat Try.prog 5 33 = some [some .i8, some .i8, some .u8, some .u8, none] := of_decide_eq_true (by kernel_rfl)

section
variable {H : Type} {enc : TypeId × Value → H} {w w' : World} {base base' : Nat} {spare spare' : Nat → Bool} {held held' : Bool}
theorem five_of {cs : Array Value} (h : cs.size = 5) : ∃ a b c d e, cs = #[a, b, c, d, e] := by
  refine ⟨cs[0], cs[1], cs[2], cs[3], cs[4], ?_⟩
  apply Array.ext
  · simp [h]
  · intro i h1 h2
    match i, h1 with
    | 0, _ | 1, _ | 2, _ | 3, _ | 4, _ => rfl
    | n + 5, hn => omega
set_option maxRecDepth 100000 in
theorem open_move {r : Reach} {b0 : Nat} {v : Value} {d : DataW H} {p : List MemPlace} (hv : Value.okWide Try.prog w r b0 33 v) (h : DataW.Trod enc Try.prog w base spare held 33 v d p) :
    ∃ f g a b ca, v = .agg (movC f g a b ca) ∧ p = [] ∧ MovOk f g a b := by
  have hs : ∃ cs, v = .agg cs := (Go.WideShapes.okWide_struct (t := 33) (P := Try.prog) Try.underlying33 hv).imp fun cs h => h.1
  obtain ⟨cs, rfl, rfl, hl, hc⟩ := flat_arg Try.movFlat hs h
  obtain ⟨v0, v1, v2, v3, v4, rfl⟩ := five_of (by simpa using hl)
  obtain ⟨u, hu, n0, rfl, w0⟩ := hc 0 _ rfl
  obtain rfl : v0 = .int .i8 n0 := by simpa using hu
  obtain ⟨u, hu, n1, rfl, w1⟩ := hc 1 _ rfl
  obtain rfl : v1 = .int .i8 n1 := by simpa using hu
  obtain ⟨u, hu, n2, rfl, w2⟩ := hc 2 _ rfl
  obtain rfl : v2 = .int .u8 n2 := by simpa using hu
  obtain ⟨u, hu, n3, rfl, w3⟩ := hc 3 _ rfl
  obtain rfl : v3 = .int .u8 n3 := by simpa using hu
  obtain ⟨u, hu, n4, rfl⟩ := hc 4 _ rfl
  obtain rfl : v4 = .bool n4 := by simpa using hu
  exact ⟨n0, n1, n2, n3, n4, rfl, rfl, bounds_i8 w0, bounds_i8 w1, bounds_u8 w2, bounds_u8 w3⟩
theorem shut_move {v : Value} {d : DataW H} {p : List MemPlace} (h : DataW.Trod enc Try.prog w base spare held 33 v d p) : DataW.Trod enc Try.prog w' base' spare' held' 33 v d p := by
  obtain ⟨fuel, h⟩ := h
  exact ⟨fuel, by rw [← flat_same 5 _ _ Try.movFlat fuel]; exact h⟩
end

/-- A board's cells. -/
def brdL (c : Nat → Int) : List Value := (List.range 64).map fun i => Value.int .u8 (c i)
def BrdOk (c : Nat → Int) : Prop := ∀ s, s < 64 → 0 ≤ c s ∧ c s ≤ 255
theorem brdL_get (c : Nat → Int) (i : Nat) (h : i < 64) : (brdL c)[i]? = some (.int .u8 (c i)) := by simp [brdL, h]
def brdK : List (Option IntKind) := (List.range 64).map fun _ => some IntKind.u8
theorem brdK_len : brdK.length = 64 := by decide +kernel
theorem Try.brdFlat : flat Try.prog 5 22 = some brdK := of_decide_eq_true (by kernel_rfl)
section
variable {H : Type} {enc : TypeId × Value → H} {w w' : World} {base base' : Nat} {spare spare' : Nat → Bool} {held held' : Bool}
set_option maxRecDepth 100000 in
theorem open_board {r : Reach} {b0 : Nat} {v : Value} {d : DataW H} {p : List MemPlace} (hv : Value.okWide Try.prog w r b0 22 v) (h : DataW.Trod enc Try.prog w base spare held 22 v d p) :
    ∃ c, v = .agg (brdL c).toArray ∧ p = [] ∧ BrdOk c := by
  have hs : ∃ cs, v = .agg cs := by
    simp only [Value.okWide, Try.underlying22] at hv
    exact hv.imp fun cs h => h.1
  obtain ⟨cs, rfl, rfl, hl, hc⟩ := flat_arg Try.brdFlat hs h
  have hl : cs.size = 64 := by rw [brdK_len] at hl; exact hl
  have key : ∀ i, i < 64 → ∃ n, cs[i]? = some (.int .u8 n) ∧ (0 ≤ n ∧ n ≤ 255) := by
    intro i hi
    obtain ⟨u, hu, n, rfl, hw⟩ := hc i (some .u8) (by simp [brdK, hi])
    exact ⟨n, by simpa using hu, bounds_u8 hw⟩
  refine ⟨fun i => match cs[i]? with | some (.int _ n) => n | _ => 0, ?_, rfl, fun i hi => ?_⟩
  · refine congrArg Value.agg ?_
    refine Array.ext_getElem? fun i => ?_
    by_cases hi : i < 64
    · show cs[i]? = (brdL _).toArray[i]?
      obtain ⟨n, hn, _⟩ := key i hi
      rw [hn]
      simp [brdL, hi, hn]
    · rw [Array.getElem?_eq_none (by omega), Array.getElem?_eq_none (by simp [brdL]; omega)]
  · obtain ⟨n, hn, hw⟩ := key i hi
    simp only [hn]
    exact hw
theorem shut_board {v : Value} {d : DataW H} {p : List MemPlace} (h : DataW.Trod enc Try.prog w base spare held 22 v d p) : DataW.Trod enc Try.prog w' base' spare' held' 22 v d p := by
  obtain ⟨fuel, h⟩ := h
  exact ⟨fuel, by rw [← flat_same 5 _ _ Try.brdFlat fuel]; exact h⟩
end

end Go.Proofs.Ytldpejeodhkgdaa
