/- The laws on pieces: PiecesOther, PiecesTwelve, PiecesLetters. -/
import Derived.Test.YthnmbjolljpkaaaLaw05
namespace Go.Proofs.Ythnmbjolljpkaaa
open Go.RowKit

theorem P.other_is (p : Int) (h0 : 0 ≤ p) (h1 : p ≤ 255) : P.isB p = true → P.isB (P.other p) = true ∧ 0 ≤ P.other p ∧ P.other p ≤ 255 ∧ P.other (P.other p) = p ∧ P.kind (P.other p) = P.kind p ∧ P.color (P.other p) = 1 - P.color p :=
  all8 (fun p => P.isB p = true → P.isB (P.other p) = true ∧ 0 ≤ P.other p ∧ P.other p ≤ 255 ∧ P.other (P.other p) = p ∧ P.kind (P.other p) = P.kind p ∧ P.color (P.other p) = 1 - P.color p) (by decide +kernel) p h0 h1

theorem P.letters_is (p : Int) (h0 : 0 ≤ p) (h : P.isB p = true) : ∃ x y : UInt8, P.letter p = ⟨#[x]⟩ ∧ P.letter (P.other p) = ⟨#[y]⟩ ∧ bits .xor .u8 (x.toNat : Int) (y.toNat : Int) = 32 ∧ (decide ((x.toNat : Int) < 97) = (P.color p == 0)) := by
  obtain ⟨n, hn, rfl⟩ := P.is_at p h0 h
  refine ⟨(P.letter (P.at n)).data.getD 0 0, (P.letter (P.other (P.at n))).data.getD 0 0, ?_⟩
  match n, hn with
  | 0, _ => exact ⟨rfl, rfl, by decide +kernel, by decide +kernel⟩
  | 1, _ => exact ⟨rfl, rfl, by decide +kernel, by decide +kernel⟩
  | 2, _ => exact ⟨rfl, rfl, by decide +kernel, by decide +kernel⟩
  | 3, _ => exact ⟨rfl, rfl, by decide +kernel, by decide +kernel⟩
  | 4, _ => exact ⟨rfl, rfl, by decide +kernel, by decide +kernel⟩
  | 5, _ => exact ⟨rfl, rfl, by decide +kernel, by decide +kernel⟩
  | 6, _ => exact ⟨rfl, rfl, by decide +kernel, by decide +kernel⟩
  | 7, _ => exact ⟨rfl, rfl, by decide +kernel, by decide +kernel⟩
  | 8, _ => exact ⟨rfl, rfl, by decide +kernel, by decide +kernel⟩
  | 9, _ => exact ⟨rfl, rfl, by decide +kernel, by decide +kernel⟩
  | 10, _ => exact ⟨rfl, rfl, by decide +kernel, by decide +kernel⟩
  | 11, _ => exact ⟨rfl, rfl, by decide +kernel, by decide +kernel⟩

set_option maxHeartbeats 1000000 in
theorem piecesOther_walk (p : Int) (w : World) (h0 : 0 ≤ p) (h1 : p ≤ 255) :
    Calls Try.prog 6 #[.int .u8 p] w fun e w' => e = .returned (.bool true) ∧ Below w.heap.size w w' := by
  have hb0 := Below.refl w.heap.size w
  by_cases h : P.isB p = true
  · have hc := P.color_is p h0 h1 h
    obtain ⟨o1, o2, o3, o4, o5, o6⟩ := P.other_is p h0 h1 h
    obtain ⟨x, y, lx, ly, hxy, hx⟩ := P.letters_is p h0 h
    have hxy' : bits .xor .u8 ((((⟨#[x]⟩ : ByteArray)[0]'(Nat.zero_lt_one)).toNat : Nat) : Int) ((((⟨#[y]⟩ : ByteArray)[0]'(Nat.zero_lt_one)).toNat : Nat) : Int) = 32 := hxy
    have hx' : decide (((((⟨#[x]⟩ : ByteArray)[0]'(Nat.zero_lt_one)).toNat : Nat) : Int) < 97) = (P.color p == 0) := hx
    clear hxy hx
    have hw : IntKind.u8.wrap (1 - P.color p) = 1 - P.color p := by
      have : P.color p = 0 ∨ P.color p = 1 := by omega
      rcases this with e | e <;> rw [e] <;> rfl
    go_enter Try.func6, Try.ntmps6
    go_wp2_with (first | (go_at_call 25; refine (awake_walk _).mono ?_; rintro e w' ⟨rfl, hb⟩; replace hb0 := below_next hb0 hb; clear hb) | (go_at_call 21; refine (letter_any _ _ (by omega) (by omega)).mono ?_; rintro e w' ⟨rfl, rfl⟩) | (go_at_call 12; refine (is_any _ _ (by omega) (by omega)).mono ?_; rintro e w' ⟨rfl, rfl⟩) | (go_at_call 23; refine (other_any _ _ (by omega) (by omega)).mono ?_; rintro e w' ⟨rfl, rfl⟩))
    go_quiet ((first | (go_at_call 23; exact quiet_same (other_any _ _ (by omega) (by omega))) | (go_at_call 16; exact quiet_same (kind_any _ _ (by omega) (by omega))) | (go_at_call 14; exact quiet_same (color_any _ _ (by omega) (by omega)))))
    go_wp2
    go_ret
    exact ⟨rfl, below_drewN hb0 _⟩
  · have h : P.isB p = false := by simpa using h
    have ho := P.other_no p h
    go_enter Try.func6, Try.ntmps6
    go_wp2_with (first | (go_at_call 25; refine (awake_walk _).mono ?_; rintro e w' ⟨rfl, hb⟩; replace hb0 := below_next hb0 hb; clear hb) | (go_at_call 21; refine (letter_any _ _ (by omega) (by omega)).mono ?_; rintro e w' ⟨rfl, rfl⟩) | (go_at_call 12; refine (is_any _ _ (by omega) (by omega)).mono ?_; rintro e w' ⟨rfl, rfl⟩) | (go_at_call 23; refine (other_any _ _ (by omega) (by omega)).mono ?_; rintro e w' ⟨rfl, rfl⟩))
    go_ret
    exact ⟨rfl, hb0⟩

end Go.Proofs.Ythnmbjolljpkaaa
