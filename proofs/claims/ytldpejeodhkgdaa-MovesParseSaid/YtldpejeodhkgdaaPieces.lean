/- The program's package pieces: what each function computes. -/
import Derived.Test.YtldpejeodhkgdaaRows
import Derived.WalkKit
import Derived.WalkSpells
import Derived.WalkLawsBesides
import Derived.Deep.QuietTactic
import Derived.BigQuiet
import Derived.Deep.LoopGhost
import Derived.Test.YtldpejeodhkgdaaLib
namespace Go.Proofs.Ytldpejeodhkgdaa
open Go.RowKit

namespace P

def make (c k : Int) : Int := if (c ≤ 1 ∧ 1 ≤ k) ∧ k ≤ 6 then 8 * c + k else 0
def isB (p : Int) : Bool := decide ((1 ≤ p ∧ p ≤ 6) ∨ (9 ≤ p ∧ p ≤ 14))
def color (p : Int) : Int := if isB p then p / 8 else 2
def kind (p : Int) : Int := if isB p then p % 8 else 0
def other (p : Int) : Int := if isB p then (if p ≤ 6 then p + 8 else p - 8) else 0

theorem is_make (p : Int) (h0 : 0 ≤ p) (h1 : p ≤ 255) : (decide (p ≠ 0) && (make (p / 8) (p % 8) == p)) = isB p :=
  all8 (fun p => (decide (p ≠ 0) && (make (p / 8) (p % 8) == p)) = isB p) (by decide +kernel) p h0 h1

theorem make_bd (c k : Int) (h0 : 0 ≤ c) : 0 ≤ make c k ∧ make c k ≤ 14 := by
  unfold make; split <;> omega
theorem color_bd (p : Int) (h0 : 0 ≤ p) (h1 : p ≤ 255) : 0 ≤ color p ∧ color p ≤ 2 :=
  all8 (fun p => 0 ≤ color p ∧ color p ≤ 2) (by decide +kernel) p h0 h1
theorem kind_bd (p : Int) (h0 : 0 ≤ p) (h1 : p ≤ 255) : 0 ≤ kind p ∧ kind p ≤ 6 :=
  all8 (fun p => 0 ≤ kind p ∧ kind p ≤ 6) (by decide +kernel) p h0 h1

theorem color_is (p : Int) (h0 : 0 ≤ p) (h1 : p ≤ 255) : isB p = true → 0 ≤ color p ∧ color p ≤ 1 :=
  all8 (fun p => isB p = true → 0 ≤ color p ∧ color p ≤ 1) (by decide +kernel) p h0 h1
theorem kind_is (p : Int) (h0 : 0 ≤ p) (h1 : p ≤ 255) : isB p = true → 1 ≤ kind p ∧ kind p ≤ 6 :=
  all8 (fun p => isB p = true → 1 ≤ kind p ∧ kind p ≤ 6) (by decide +kernel) p h0 h1
theorem other_make (p : Int) (h0 : 0 ≤ p) (h1 : p ≤ 255) : isB p = true → make (1 - color p) (kind p) = other p :=
  all8 (fun p => isB p = true → make (1 - color p) (kind p) = other p) (by decide +kernel) p h0 h1

def letters (c : Int) : ByteArray := if c = 0 then ⟨#[46, 80, 78, 66, 82, 81, 75]⟩ else ⟨#[46, 112, 110, 98, 114, 113, 107]⟩
theorem letters_size (c : Int) : (letters c).size = 7 := by unfold letters; split <;> rfl
def letter (p : Int) : ByteArray := if isB p then (letters (color p)).extract (kind p).toNat ((kind p).toNat + 1) else ⟨#[]⟩

end P

set_option maxRecDepth 100000 in
set_option maxHeartbeats 400000 in
theorem make_any (c k : Int) (w : World) (h0 : 0 ≤ c) (h1 : c ≤ 255) (h2 : 0 ≤ k) (h3 : k ≤ 255) :
    Calls Try.prog 35 #[.int .u8 c, .int .u8 k] w fun e w' => e = .returned (.int .u8 (P.make c k)) ∧ w = w' := by
  go_enter Try.func35, Try.ntmps35
  go_wp2
  all_goals
    go_ret
    refine ⟨ret_int ?_, rfl⟩
    unfold P.make
    first | rw [if_pos (by omega)] | rw [if_neg (by omega)]

set_option maxRecDepth 100000 in
set_option maxHeartbeats 400000 in
theorem is_any (p : Int) (w : World) (h0 : 0 ≤ p) (h1 : p ≤ 255) :
    Calls Try.prog 38 #[.int .u8 p] w fun e w' => e = .returned (.bool (P.isB p)) ∧ w = w' := by
  have H := Lib.hid (P.is_make p h0 h1)
  by_cases hp : p = 0
  · subst hp
    go_enter Try.func38, Try.ntmps38
    go_wp2
    go_ret
    exact ⟨rfl, rfl⟩
  · have hb : (p == 0) = false := by simpa using hp
    go_enter Try.func38, Try.ntmps38
    go_wp2_with (go_at_call 35; refine (make_any _ _ _ (by omega) (by omega) (by omega) (by omega)).mono ?_; rintro e w' ⟨rfl, rfl⟩)
    go_ret
    exact ⟨ret_bool (by rw [← H.out]; simp [bne, hb, hp]), rfl⟩

/-- Is, at a number that is known to be a piece, or to be none. -/
theorem is_eq (p : Int) (b : Bool) (w : World) (h0 : 0 ≤ p) (h1 : p ≤ 255) (h : P.isB p = b) :
    Calls Try.prog 38 #[.int .u8 p] w fun e w' => e = .returned (.bool b) ∧ w = w' := by
  rw [← h]; exact is_any p w h0 h1

set_option maxRecDepth 100000 in
set_option maxHeartbeats 400000 in
theorem color_any (p : Int) (w : World) (h0 : 0 ≤ p) (h1 : p ≤ 255) :
    Calls Try.prog 23 #[.int .u8 p] w fun e w' => e = .returned (.int .u8 (P.color p)) ∧ w = w' := by
  by_cases h : P.isB p = true
  · have H := Lib.hid h
    clear h
    go_enter Try.func23, Try.ntmps23
    go_wp2_with (go_at_call 38; refine (is_eq _ true _ h0 h1 H.out).mono ?_; rintro e w' ⟨rfl, rfl⟩)
    go_ret
    exact ⟨ret_int (by unfold P.color; rw [if_pos H.out]), rfl⟩
  · have H := Lib.hid h
    clear h
    go_enter Try.func23, Try.ntmps23
    go_wp2_with (go_at_call 38; refine (is_eq _ false _ h0 h1 (by simpa using H.out)).mono ?_; rintro e w' ⟨rfl, rfl⟩)
    go_ret
    exact ⟨ret_int (by unfold P.color; rw [if_neg H.out]), rfl⟩

set_option maxRecDepth 100000 in
set_option maxHeartbeats 400000 in
theorem kind_any (p : Int) (w : World) (h0 : 0 ≤ p) (h1 : p ≤ 255) :
    Calls Try.prog 22 #[.int .u8 p] w fun e w' => e = .returned (.int .u8 (P.kind p)) ∧ w = w' := by
  by_cases h : P.isB p = true
  · have H := Lib.hid h
    clear h
    go_enter Try.func22, Try.ntmps22
    go_wp2_with (go_at_call 38; refine (is_eq _ true _ h0 h1 H.out).mono ?_; rintro e w' ⟨rfl, rfl⟩)
    go_ret
    exact ⟨ret_int (by unfold P.kind; rw [if_pos H.out]), rfl⟩
  · have H := Lib.hid h
    clear h
    go_enter Try.func22, Try.ntmps22
    go_wp2_with (go_at_call 38; refine (is_eq _ false _ h0 h1 (by simpa using H.out)).mono ?_; rintro e w' ⟨rfl, rfl⟩)
    go_ret
    exact ⟨ret_int (by unfold P.kind; rw [if_neg H.out]), rfl⟩

set_option maxRecDepth 100000 in
set_option maxHeartbeats 400000 in
theorem letters_any (c : Int) (w : World) (h0 : 0 ≤ c) (h1 : c ≤ 255) :
    Calls Try.prog 42 #[.int .u8 c] w fun e w' => e = .returned (.string (P.letters c)) ∧ w = w' := by
  by_cases h : c = 0
  · subst h
    go_enter Try.func42, Try.ntmps42
    go_wp2
    go_ret
    exact ⟨rfl, rfl⟩
  · have hb : (c == 0) = false := by simpa using h
    go_enter Try.func42, Try.ntmps42
    go_wp2
    go_ret
    exact ⟨by rw [P.letters, if_neg h]; rfl, rfl⟩

set_option maxRecDepth 100000 in
set_option maxHeartbeats 400000 in
theorem letter_any (p : Int) (w : World) (h0 : 0 ≤ p) (h1 : p ≤ 255) :
    Calls Try.prog 36 #[.int .u8 p] w fun e w' => e = .returned (.string (P.letter p)) ∧ w = w' := by
  by_cases h : P.isB p = true
  · have hc2 := P.color_is p h0 h1 h
    have hk := P.kind_is p h0 h1 h
    have hs := P.letters_size (P.color p)
    have H := Lib.hid h
    clear h
    go_enter Try.func36, Try.ntmps36
    go_wp2_with (first | (go_at_call 38; refine (is_eq _ true _ h0 h1 H.out).mono ?_; rintro e w' ⟨rfl, rfl⟩) | (go_at_call 23; refine (color_any _ _ h0 h1).mono ?_; rintro e w' ⟨rfl, rfl⟩) | (go_at_call 22; refine (kind_any _ _ h0 h1).mono ?_; rintro e w' ⟨rfl, rfl⟩) | (go_at_call 42; refine (letters_any _ _ (by omega) (by omega)).mono ?_; rintro e w' ⟨rfl, rfl⟩))
    go_ret
    exact ⟨by rw [P.letter, if_pos H.out, show (P.kind p).toNat + 1 = (P.kind p + 1).toNat from by omega]; rfl, rfl⟩
  · have H := Lib.hid h
    clear h
    go_enter Try.func36, Try.ntmps36
    go_wp2_with (go_at_call 38; refine (is_eq _ false _ h0 h1 (by simpa using H.out)).mono ?_; rintro e w' ⟨rfl, rfl⟩)
    go_ret
    exact ⟨by rw [P.letter, if_neg H.out]; rfl, rfl⟩

theorem Try.info_u8 : (Try.prog.info? 5).map (fun i => (i.zero, i.size, i.bytes)) = some (some (.int .u8 0), 1, 1) := by kernel_rfl

/-- The kinds below k, one behind the other. -/
def P.kindsTo (n : Nat) : List Value := (List.range n).map fun (i : Nat) => Value.int .u8 ((i : Int) + 1)
theorem P.kindsTo_len (n : Nat) : (P.kindsTo n).length = n := by simp [P.kindsTo]
theorem P.kindsTo_succ (n : Nat) : P.kindsTo n ++ [.int .u8 ((n : Int) + 1)] = P.kindsTo (n + 1) := by simp [P.kindsTo, List.range_succ]

/-- What Kinds leaves: six bytes, 1 to 6, in memory of its own. -/
def P.KindsEnd (w : World) (e : Ending) (w' : World) : Prop := ∃ b cap, e = .returned (.slice (some ⟨b, 0, none⟩) 6 cap) ∧ w.heap.size ≤ b ∧ b < w'.heap.size ∧ 6 ≤ cap ∧ (∀ j : Nat, j < 6 → w'.cell? ⟨b, j, none⟩ = some (.int .u8 ((j : Int) + 1))) ∧ (∀ j, w'.frozen? ⟨b, j, none⟩ = false) ∧ Below w.heap.size w w'
theorem P.kindsEnd_of {w w' : World} {v : Value} (h : w'.ownsRow w.heap.size 5 1 v 6 (P.kindsTo 6)) (hb : Below w.heap.size w w') : P.KindsEnd w (.returned v) w' := by
  obtain ⟨b, cap, rfl, h1, h2, h3, h4, h5⟩ := owns_open h (by omega)
  exact ⟨b, cap, rfl, h1, h2, h3, fun j hj => h4 j _ (by simp [P.kindsTo, hj]), h5, hb⟩

set_option maxRecDepth 100000 in
set_option maxHeartbeats 400000 in
theorem kinds_any (w : World) :
    Calls Try.prog 34 #[] w (P.KindsEnd w) := by
  obtain ⟨i0, hi, hz0, hz1, hz2⟩ := info_parts Try.info_u8
  go_enter Try.func34, Try.ntmps34
  go_wp2
  go_loopw [1, 2] (fun v k wr => ∃ n : Nat, n ≤ 6 ∧ k = .int .u8 ((n : Int) + 1) ∧ wr.ownsRow w.heap.size 5 1 v n (P.kindsTo n) ∧ Below w.heap.size w wr) (fun _ k _ => (7 - intOf k).toNat)
  case atStart => exact ⟨0, by omega, rfl, by simpa [P.kindsTo] using World.ownsRow_nil _ _ _ _, Below.refl _ _⟩
  case round =>
    obtain ⟨n, hn, rfl, hown, hb⟩ := hrel
    by_cases hlt : n < 6
    · have hlen := hb.size
      go_wp2_with (at_builtin; refine wpList_append_own _ rfl _ _ 65 rfl w.heap.size 5 i0 (.int .u8 0) 1 1 Try.underlying65 hi hz0 hz1 hz2 rfl (by decide) _ _ _ rfl (hown.alloc _) ⟨_, 0, none⟩ 1 1 [.int .u8 ((n : Int) + 1)] rfl rfl (cell_one_new _ _ _) (by intro u hu; simp at hu; subst hu; rfl) (by unfold maxLen; omega) (by omega) (by simp; omega) ?_; intro v' w1 hown' hgrow _)
      have R : w1.ownsRow w.heap.size 5 1 v' (n + 1) (P.kindsTo (n + 1)) := by rw [← P.kindsTo_succ]; exact hown'
      have R2 : Below w.heap.size w w1 := (hb.alloc hlen _).grown hgrow (by simp; omega) (fun k hk => (hown.lt k hk).1)
      exact ⟨⟨n + 1, by omega, by go_num, R, R2⟩, by simp [intOf]; omega⟩
    · obtain rfl : n = 6 := by omega
      go_wp2
      go_ret
      exact P.kindsEnd_of hown hb

/-- The pieces in Parse's order; the one of a place. -/
def P.at (n : Nat) : Int := if n < 6 then (n : Int) + 1 else (n : Int) + 3
theorem P.at_make (c i : Nat) (hc : c < 2) (hi : i < 6) : P.make (c : Int) ((i : Int) + 1) = P.at (6 * c + i) := by
  unfold P.make P.at
  rw [if_pos (by omega)]
  split <;> omega
theorem P.at_bd (n : Nat) (h : n < 12) : 1 ≤ P.at n ∧ P.at n ≤ 14 := by unfold P.at; split <;> omega
/-- No piece before place n has that letter. -/
def P.noneTo (s : ByteArray) (n : Nat) : Prop := ∀ j, j < n → ((P.letter (P.at j)).toList == s.toList) = false
theorem P.noneTo_succ {s : ByteArray} {n : Nat} (h : P.noneTo s n) (h1 : ((P.letter (P.at n)).toList == s.toList) = false) : P.noneTo s (n + 1) := fun j hj => by
  by_cases e : j = n
  · rw [e]; exact h1
  · exact h j (by omega)

/-- What Parse answers. -/
def P.Parsed (s : ByteArray) (p : Int) (ok : Bool) : Prop := (ok = true ∧ ∃ n, n < 12 ∧ p = P.at n ∧ ((P.letter (P.at n)).toList == s.toList) = true ∧ P.noneTo s n) ∨ (ok = false ∧ p = 0 ∧ P.noneTo s 12)
def P.parseEnd (s : ByteArray) (w : World) (e : Ending) (w' : World) : Prop := ∃ p ok, e = .returned (.tuple #[.int .u8 p, .bool ok]) ∧ P.Parsed s p ok ∧ Below w.heap.size w w'

set_option maxRecDepth 100000 in
set_option maxHeartbeats 1000000 in
theorem parse_walk (s : ByteArray) (w : World) : Calls Try.prog 20 #[.string s] w (P.parseEnd s w) := by
  go_enter Try.func20, Try.ntmps20
  go_wp2
  go_step3
  go_wp2
  go_step3
  go_wp2
  go_loopg [5, 4] 2 (fun g c f wr => ∃ k : Nat, k + g = 2 ∧ c = .int .u8 (k : Int) ∧ f = .int .u8 0 ∧ P.noneTo s (6 * k) ∧ Below w.heap.size w wr)
  case atStart => exact ⟨0, rfl, rfl, rfl, fun j hj => by omega, Below.refl _ _⟩
  case round =>
    obtain ⟨g1, rfl⟩ : ∃ g1 : Nat, g1 = gk := ⟨_, rfl⟩
    obtain ⟨k, hk, rfl, rfl, hno, hb⟩ := hrel
    have Hno := Lib.hid hno
    clear hno
    by_cases hlt : k < 2
    · go_wp2_with (go_at_call 34; refine (kinds_any _).mono ?_; rintro e w1 ⟨b, cap, rfl, hbb, hbs, hcap, hcell, hfr, hb1⟩)
      obtain ⟨Hb⟩ : Nonempty (Hid (Below w.heap.size w w1)) := ⟨hb.trans (hb1.mono hb.size)⟩
      have Hcell := Lib.hid hcell
      clear hcell hfr hb1 hb hbb hbs
      go_loopg [15, 4] 6 (fun g2 i f wy => ∃ n : Nat, n + g2 = 6 ∧ i = .int .i64 (n : Int) ∧ f = .int .u8 0 ∧ P.noneTo s (6 * k + n) ∧ wy = w1)
      case atStart => exact ⟨0, rfl, rfl, rfl, Hno.out, rfl⟩
      case round =>
        obtain ⟨n, hn, rfl, rfl, hno2, rfl⟩ := hrel
        have Hno2 := Lib.hid hno2
        clear hno2
        by_cases hn6 : n < 6
        · have hc := Hcell.out n hn6
          have hm := P.at_make k n hlt hn6
          have hab := P.at_bd (6 * k + n) (by omega)
          go_wp2_with (first | (go_at_call 35; refine (make_any _ _ _ (by omega) (by omega) (by omega) (by omega)).mono ?_; rintro e w' ⟨rfl, rfl⟩; rw [hm]) | (go_at_call 36; refine (letter_any _ _ (by omega) (by omega)).mono ?_; rintro e w' ⟨rfl, rfl⟩))
          · rw [Exit.noGoto_ret]
            go_ret2
            exact ⟨P.at (6 * k + n), true, by rw [show (P.at (6 * k + n) != 0) = true by simp; omega]; rfl, .inl ⟨rfl, 6 * k + n, by omega, rfl, by assumption, Hno2.out⟩, Hb.out⟩
          · go_roundg (gk - 1)
            case measure => omega
            case rel => exact ⟨n + 1, by omega, by go_num, rfl, P.noneTo_succ Hno2.out (by assumption), rfl⟩
        · obtain rfl : n = 6 := by omega
          go_wp2
          go_roundg (g1 - 1)
          case measure => omega
          case rel => exact ⟨k + 1, by omega, by go_num, rfl, Hno2.out, Hb.out⟩
    · obtain rfl : k = 2 := by omega
      go_wp2
      rw [Exit.noGoto_ret]
      go_ret2
      exact ⟨0, false, rfl, .inr ⟨rfl, rfl, Hno.out⟩, hb⟩

end Go.Proofs.Ytldpejeodhkgdaa
