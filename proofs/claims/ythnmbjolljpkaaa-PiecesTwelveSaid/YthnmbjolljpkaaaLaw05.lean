/- The laws on pieces: each walk, out of the contracts of what it calls. -/
import Derived.Test.YthnmbjolljpkaaaRef05
import Derived.Lib.Strings
namespace Go.Proofs.Ythnmbjolljpkaaa
open Go.RowKit

theorem parse_eq (s : ByteArray) (p : Int) (ok : Bool) (h : P.Parsed s p ok) (w : World) : Calls Try.prog 18 #[.string s] w fun e w' => e = .returned (.tuple #[.int .u8 p, .bool ok]) ∧ Below w.heap.size w w' := by
  refine (parse_walk s w).mono ?_
  rintro e w' ⟨p', ok', rfl, h', hb⟩
  obtain ⟨rfl, rfl⟩ := P.parsed_one h h'
  exact ⟨rfl, hb⟩

theorem r5parse_eq (s : ByteArray) (p : Int) (ok : Bool) (h : P.Parsed s p ok) (w : World) : Calls Try.prog 19 #[.string s] w fun e w' => e = .returned (.tuple #[.int .u8 p, .bool ok]) ∧ Below w.heap.size w w' := by
  refine (r5parse_walk s w).mono ?_
  rintro e w' ⟨p', ok', rfl, h', hb⟩
  obtain ⟨rfl, rfl⟩ := P.parsed_one h h'
  exact ⟨rfl, hb⟩

instance (s : ByteArray) (n : Nat) : Decidable (P.noneTo s n) := by unfold P.noneTo; exact inferInstance

theorem P.pq : P.Parsed ⟨#[113]⟩ 13 true := .inl ⟨rfl, 10, by decide, rfl, by decide +kernel, by decide +kernel⟩
theorem P.pK : P.Parsed ⟨#[75]⟩ 6 true := .inl ⟨rfl, 5, by decide, rfl, by decide +kernel, by decide +kernel⟩
theorem P.px : P.Parsed ⟨#[120]⟩ 0 false := .inr ⟨rfl, rfl, by decide +kernel⟩
theorem P.pqq : P.Parsed ⟨#[113, 113]⟩ 0 false := .inr ⟨rfl, rfl, by decide +kernel⟩

theorem P.makes_yes (c k : Int) (h0 : 0 ≤ c) (h1 : c ≤ 1) (h2 : 1 ≤ k) (h3 : k ≤ 6) : P.make c k = 8 * c + k ∧ P.isB (8 * c + k) = true ∧ P.color (8 * c + k) = c ∧ P.kind (8 * c + k) = k ∧ P.other (8 * c + k) = P.make (1 - c) k := by
  have hc : c = 0 ∨ c = 1 := by omega
  have hk : k = 1 ∨ k = 2 ∨ k = 3 ∨ k = 4 ∨ k = 5 ∨ k = 6 := by omega
  rcases hc with rfl | rfl <;> rcases hk with rfl | rfl | rfl | rfl | rfl | rfl <;> decide +kernel
theorem P.makes_no (c k : Int) (h : ¬ ((c ≤ 1 ∧ 1 ≤ k) ∧ k ≤ 6)) : P.make c k = 0 := by unfold P.make; rw [if_neg h]

set_option maxHeartbeats 1000000 in
theorem awake_walk (w : World) : Calls Try.prog 25 #[] w fun e w' => e = .returned (.bool true) ∧ Below w.heap.size w w' := by
  have m1 : P.make 0 1 = 1 := by decide +kernel
  have m2 : P.make 1 6 = 14 := by decide +kernel
  have m3 : P.make 2 1 = 0 := by decide +kernel
  have m4 : P.make 0 7 = 0 := by decide +kernel
  have c1 : P.color 14 = 1 := by decide +kernel
  have c2 : P.kind 14 = 6 := by decide +kernel
  have c3 : P.color 7 = 2 := by decide +kernel
  have c4 : P.kind 7 = 0 := by decide +kernel
  have l1 : P.letter 2 = ⟨#[78]⟩ := rfl
  have l2 : P.letter 10 = ⟨#[110]⟩ := rfl
  have l3 : P.letter 8 = ⟨#[]⟩ := rfl
  have o1 : P.other 3 = 11 := by decide +kernel
  have o2 : P.other 0 = 0 := by decide +kernel
  go_enter Try.func25, Try.ntmps25
  go_wp2_with fail
  refine (parse_eq _ _ _ P.pq _).mono ?_
  rintro e w1 ⟨rfl, hb1⟩
  go_wp2_with fail
  refine (parse_eq _ _ _ P.pK _).mono ?_
  rintro e w2 ⟨rfl, hb2⟩
  go_wp2_with fail
  refine (parse_eq _ _ _ P.px _).mono ?_
  rintro e w3 ⟨rfl, hb3⟩
  go_wp2_with fail
  refine (parse_eq _ _ _ P.pqq _).mono ?_
  rintro e w4 ⟨rfl, hb4⟩
  have hb0 := below_next (below_next (below_next hb1 hb2) hb3) hb4
  clear hb1 hb2 hb3 hb4
  go_wp2_with (first | (go_at_call 10; refine (make_any _ _ _ (by omega) (by omega) (by omega) (by omega)).mono ?_; rintro e w' ⟨rfl, rfl⟩) | (go_at_call 14; refine (color_any _ _ (by omega) (by omega)).mono ?_; rintro e w' ⟨rfl, rfl⟩) | (go_at_call 16; refine (kind_any _ _ (by omega) (by omega)).mono ?_; rintro e w' ⟨rfl, rfl⟩) | (go_at_call 21; refine (letter_any _ _ (by omega) (by omega)).mono ?_; rintro e w' ⟨rfl, rfl⟩) | (go_at_call 23; refine (other_any _ _ (by omega) (by omega)).mono ?_; rintro e w' ⟨rfl, rfl⟩))
  go_ret
  exact ⟨rfl, hb0⟩

set_option maxHeartbeats 1000000 in
theorem piecesMade_walk (c k p : Int) (w : World) (h0 : 0 ≤ c) (h1 : c ≤ 255) (h2 : 0 ≤ k) (h3 : k ≤ 255) (h4 : 0 ≤ p) (h5 : p ≤ 255) :
    Calls Try.prog 3 #[.int .u8 c, .int .u8 k, .int .u8 p] w fun e w' => e = .returned (.bool true) ∧ Below w.heap.size w w' := by
  have hb0 := Below.refl w.heap.size w
  go_enter Try.func3, Try.ntmps3
  go_wp2_with (first | (go_at_call 10; refine (make_any _ _ _ (by omega) (by omega) (by omega) (by omega)).mono ?_; rintro e w' ⟨rfl, rfl⟩) | (go_at_call 11; refine (r5make_walk _ _ _ (by omega) (by omega)).mono ?_; rintro e w' ⟨rfl, hb⟩; replace hb0 := below_next hb0 hb; clear hb) | (go_at_call 12; refine (is_any _ _ (by omega) (by omega)).mono ?_; rintro e w' ⟨rfl, rfl⟩) | (go_at_call 13; refine (r5is_walk _ _ (by omega)).mono ?_; rintro e w' ⟨rfl, hb⟩; replace hb0 := below_next hb0 hb; clear hb) | (go_at_call 14; refine (color_any _ _ (by omega) (by omega)).mono ?_; rintro e w' ⟨rfl, rfl⟩) | (go_at_call 15; refine (r5color_walk _ _ (by omega)).mono ?_; rintro e w' ⟨rfl, hb⟩; replace hb0 := below_next hb0 hb; clear hb) | (go_at_call 16; refine (kind_any _ _ (by omega) (by omega)).mono ?_; rintro e w' ⟨rfl, rfl⟩) | (go_at_call 17; refine (r5kind_walk _ _ (by omega)).mono ?_; rintro e w' ⟨rfl, hb⟩; replace hb0 := below_next hb0 hb; clear hb))
  go_ret
  exact ⟨rfl, hb0⟩

set_option maxHeartbeats 1000000 in
theorem piecesMakes_walk (c k : Int) (w : World) (h0 : 0 ≤ c) (h1 : c ≤ 255) (h2 : 0 ≤ k) (h3 : k ≤ 255) :
    Calls Try.prog 8 #[.int .u8 c, .int .u8 k] w fun e w' => e = .returned (.bool true) ∧ Below w.heap.size w w' := by
  have hb0 := Below.refl w.heap.size w
  have hm := P.make_bd c k h0
  by_cases h : (c ≤ 1 ∧ 1 ≤ k) ∧ k ≤ 6
  · obtain ⟨⟨g1, g2⟩, g3⟩ := h
    obtain ⟨e1, e2, e3, e4, e5⟩ := P.makes_yes c k h0 g1 g2 g3
    go_enter Try.func8, Try.ntmps8
    go_wp2_with (first | (go_at_call 25; refine (awake_walk _).mono ?_; rintro e w' ⟨rfl, hb⟩; replace hb0 := below_next hb0 hb; clear hb) | (go_at_call 10; refine (make_any _ _ _ (by omega) (by omega) (by omega) (by omega)).mono ?_; rintro e w' ⟨rfl, rfl⟩) | (go_at_call 12; refine (is_any _ _ (by omega) (by omega)).mono ?_; rintro e w' ⟨rfl, rfl⟩) | (go_at_call 14; refine (color_any _ _ (by omega) (by omega)).mono ?_; rintro e w' ⟨rfl, rfl⟩) | (go_at_call 16; refine (kind_any _ _ (by omega) (by omega)).mono ?_; rintro e w' ⟨rfl, rfl⟩) | (go_at_call 23; refine (other_any _ _ (by omega) (by omega)).mono ?_; rintro e w' ⟨rfl, rfl⟩))
    all_goals (go_ret; exact ⟨rfl, hb0⟩)
  · have e1 := P.makes_no c k h
    go_enter Try.func8, Try.ntmps8
    go_wp2_with (first | (go_at_call 25; refine (awake_walk _).mono ?_; rintro e w' ⟨rfl, hb⟩; replace hb0 := below_next hb0 hb; clear hb) | (go_at_call 10; refine (make_any _ _ _ (by omega) (by omega) (by omega) (by omega)).mono ?_; rintro e w' ⟨rfl, rfl⟩) | (go_at_call 12; refine (is_any _ _ (by omega) (by omega)).mono ?_; rintro e w' ⟨rfl, rfl⟩) | (go_at_call 14; refine (color_any _ _ (by omega) (by omega)).mono ?_; rintro e w' ⟨rfl, rfl⟩) | (go_at_call 16; refine (kind_any _ _ (by omega) (by omega)).mono ?_; rintro e w' ⟨rfl, rfl⟩) | (go_at_call 23; refine (other_any _ _ (by omega) (by omega)).mono ?_; rintro e w' ⟨rfl, rfl⟩))
    all_goals (go_ret; exact ⟨rfl, hb0⟩)

theorem P.is_at (p : Int) (h0 : 0 ≤ p) (h : P.isB p = true) : ∃ n, n < 12 ∧ p = P.at n := by
  apply Classical.byContradiction
  intro hn
  have := P.none_is p h0 (fun j hj => by
    rw [beq_eq_false_iff_ne]
    intro e
    exact hn ⟨j, hj, e.symm⟩)
  rw [this] at h
  cases h
theorem P.parsed_letter (p : Int) (h0 : 0 ≤ p) (h : P.isB p = true) : P.Parsed (P.letter p) p true := by
  obtain ⟨n, hn, rfl⟩ := P.is_at p h0 h
  have k : ∀ n : Fin 12, ((P.letter (P.at n.val)).toList == (P.letter (P.at n.val)).toList) = true ∧ P.noneTo (P.letter (P.at n.val)) n.val := by decide +kernel
  exact .inl ⟨rfl, n, hn, rfl, (k ⟨n, hn⟩).1, (k ⟨n, hn⟩).2⟩
theorem P.parsed_nothing : P.Parsed ⟨#[]⟩ 0 false := .inr ⟨rfl, rfl, by decide +kernel⟩
theorem P.letter_no (p : Int) (h : P.isB p = false) : P.letter p = ⟨#[]⟩ := by unfold P.letter; rw [h]; rfl
theorem P.color_no (p : Int) (h : P.isB p = false) : P.color p = 2 := by unfold P.color; rw [h]; rfl
theorem P.kind_no (p : Int) (h : P.isB p = false) : P.kind p = 0 := by unfold P.kind; rw [h]; rfl
theorem P.other_no (p : Int) (h : P.isB p = false) : P.other p = 0 := by unfold P.other; rw [h]; rfl
theorem P.make_self (p : Int) (h0 : 0 ≤ p) (h1 : p ≤ 255) : P.isB p = true → P.make (P.color p) (P.kind p) = p :=
  all8 (fun p => P.isB p = true → P.make (P.color p) (P.kind p) = p) (by decide +kernel) p h0 h1
theorem P.letter_size (p : Int) (h0 : 0 ≤ p) (h : P.isB p = true) : (P.letter p).size = 1 := by
  obtain ⟨n, hn, rfl⟩ := P.is_at p h0 h
  have k : ∀ n : Fin 12, (P.letter (P.at n.val)).size = 1 := by decide +kernel
  exact k ⟨n, hn⟩
theorem P.make_20 : P.make 2 0 = 0 := by decide +kernel

set_option maxHeartbeats 1000000 in
theorem piecesBack_walk (p : Int) (w : World) (h0 : 0 ≤ p) (h1 : p ≤ 255) :
    Calls Try.prog 5 #[.int .u8 p] w fun e w' => e = .returned (.bool true) ∧ Below w.heap.size w w' := by
  have hb0 := Below.refl w.heap.size w
  have hc0 := P.color_bd p h0 h1
  have hk0 := P.kind_bd p h0 h1
  by_cases h : P.isB p = true
  · have hp := P.parsed_letter p h0 h
    have hc := P.color_is p h0 h1 h
    have hk := P.kind_is p h0 h1 h
    have hm := P.make_self p h0 h1 h
    have hl := P.letter_size p h0 h
    go_enter Try.func5, Try.ntmps5
    go_wp2_with (first | (go_at_call 25; refine (awake_walk _).mono ?_; rintro e w' ⟨rfl, hb⟩; replace hb0 := below_next hb0 hb; clear hb) | (go_at_call 21; refine (letter_any _ _ (by omega) (by omega)).mono ?_; rintro e w' ⟨rfl, rfl⟩) | (go_at_call 18; refine (parse_eq _ _ _ (by assumption) _).mono ?_; rintro e w' ⟨rfl, hb⟩; replace hb0 := below_next hb0 hb; clear hb) | (go_at_call 10; refine (make_any _ _ _ (by omega) (by omega) (by omega) (by omega)).mono ?_; rintro e w' ⟨rfl, rfl⟩) | (go_at_call 12; refine (is_any _ _ (by omega) (by omega)).mono ?_; rintro e w' ⟨rfl, rfl⟩) | (go_at_call 14; refine (color_any _ _ (by omega) (by omega)).mono ?_; rintro e w' ⟨rfl, rfl⟩) | (go_at_call 16; refine (kind_any _ _ (by omega) (by omega)).mono ?_; rintro e w' ⟨rfl, rfl⟩))
    go_ret
    exact ⟨rfl, hb0⟩
  · have h : P.isB p = false := by simpa using h
    have hp := P.parsed_nothing
    have hc := P.color_no p h
    have hk := P.kind_no p h
    have hm := P.make_20
    have hl := P.letter_no p h
    go_enter Try.func5, Try.ntmps5
    go_wp2_with (first | (go_at_call 25; refine (awake_walk _).mono ?_; rintro e w' ⟨rfl, hb⟩; replace hb0 := below_next hb0 hb; clear hb) | (go_at_call 21; refine (letter_any _ _ (by omega) (by omega)).mono ?_; rintro e w' ⟨rfl, rfl⟩) | (go_at_call 18; refine (parse_eq _ _ _ (by assumption) _).mono ?_; rintro e w' ⟨rfl, hb⟩; replace hb0 := below_next hb0 hb; clear hb) | (go_at_call 10; refine (make_any _ _ _ (by omega) (by omega) (by omega) (by omega)).mono ?_; rintro e w' ⟨rfl, rfl⟩) | (go_at_call 12; refine (is_any _ _ (by omega) (by omega)).mono ?_; rintro e w' ⟨rfl, rfl⟩) | (go_at_call 14; refine (color_any _ _ (by omega) (by omega)).mono ?_; rintro e w' ⟨rfl, rfl⟩) | (go_at_call 16; refine (kind_any _ _ (by omega) (by omega)).mono ?_; rintro e w' ⟨rfl, rfl⟩))
    go_ret
    exact ⟨rfl, hb0⟩

theorem P.parsed_any (s : ByteArray) : ∃ p ok, P.Parsed s p ok := by
  by_cases h : P.noneTo s 12
  · exact ⟨0, false, .inr ⟨rfl, rfl, h⟩⟩
  · have key : ∀ m, m ≤ 12 → (P.noneTo s m ∨ ∃ n, n < m ∧ ((P.letter (P.at n)).toList == s.toList) = true ∧ P.noneTo s n) := by
      intro m
      induction m with
      | zero => exact fun _ => .inl fun j hj => by omega
      | succ m ih =>
        intro hm
        rcases ih (by omega) with h | ⟨n, hn, e⟩
        · by_cases e : ((P.letter (P.at m)).toList == s.toList) = true
          · exact .inr ⟨m, by omega, e, h⟩
          · exact .inl (P.noneTo_succ h (by simpa using e))
        · exact .inr ⟨n, by omega, e⟩
    rcases key 12 (by omega) with h' | ⟨n, hn, e, hno⟩
    · exact absurd h' h
    · exact ⟨P.at n, true, .inl ⟨rfl, n, hn, rfl, e, hno⟩⟩
theorem P.parsed_facts {s : ByteArray} {p : Int} {ok : Bool} (h : P.Parsed s p ok) : 0 ≤ p ∧ p ≤ 255 ∧ (ok = true → P.isB p = true ∧ ((P.letter p).toList == s.toList) = true ∧ s.size = 1) ∧ (ok = false → p = 0) := by
  rcases h with ⟨rfl, n, hn, rfl, hy, hno⟩ | ⟨rfl, rfl, hno⟩
  · have hb := P.at_bd n hn
    refine ⟨by omega, by omega, fun _ => ⟨P.at_is n hn, hy, ?_⟩, fun h => by cases h⟩
    have hs := P.letter_size (P.at n) (by omega) (P.at_is n hn)
    rw [← hs]
    have : (P.letter (P.at n)).toList = s.toList := by simpa using hy
    rw [Lib.toList_data, Lib.toList_data] at this
    rw [Lib.size_eq, Lib.size_eq, this]
  · exact ⟨by omega, by omega, (fun h => by cases h), fun _ => rfl⟩

set_option maxHeartbeats 1000000 in
theorem piecesRead_walk (s : ByteArray) (w : World) (_hs : s.size ≤ 9223372036854775807) :
    Calls Try.prog 9 #[.string s] w fun e w' => e = .returned (.bool true) ∧ Below w.heap.size w w' := by
  have hb0 := Below.refl w.heap.size w
  obtain ⟨p, ok, hp⟩ := P.parsed_any s
  have hq := P.parsed_facts hp
  obtain ⟨g0, g1, g2, g3⟩ := hq
  cases ok
  · obtain rfl := g3 rfl
    have z : P.isB 0 = false := rfl
    go_enter Try.func9, Try.ntmps9
    go_wp2_with (first | (go_at_call 25; refine (awake_walk _).mono ?_; rintro e w' ⟨rfl, hb⟩; replace hb0 := below_next hb0 hb; clear hb) | (go_at_call 21; refine (letter_any _ _ (by omega) (by omega)).mono ?_; rintro e w' ⟨rfl, rfl⟩) | (go_at_call 18; refine (parse_eq _ _ _ (by assumption) _).mono ?_; rintro e w' ⟨rfl, hb⟩; replace hb0 := below_next hb0 hb; clear hb) | (go_at_call 12; refine (is_any _ _ (by omega) (by omega)).mono ?_; rintro e w' ⟨rfl, rfl⟩))
    all_goals (go_ret; exact ⟨rfl, hb0⟩)
  · obtain ⟨k1, k2, k3⟩ := g2 rfl
    go_enter Try.func9, Try.ntmps9
    go_wp2_with (first | (go_at_call 25; refine (awake_walk _).mono ?_; rintro e w' ⟨rfl, hb⟩; replace hb0 := below_next hb0 hb; clear hb) | (go_at_call 21; refine (letter_any _ _ (by omega) (by omega)).mono ?_; rintro e w' ⟨rfl, rfl⟩) | (go_at_call 18; refine (parse_eq _ _ _ (by assumption) _).mono ?_; rintro e w' ⟨rfl, hb⟩; replace hb0 := below_next hb0 hb; clear hb) | (go_at_call 12; refine (is_any _ _ (by omega) (by omega)).mono ?_; rintro e w' ⟨rfl, rfl⟩))
    all_goals (go_ret; exact ⟨rfl, hb0⟩)

end Go.Proofs.Ythnmbjolljpkaaa
