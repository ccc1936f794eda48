/- The program's package pieces: what each function computes. -/
import Derived.Test.YtdfgpbighadplaaDoorRows
import Derived.WalkKit
import Derived.WalkSpells
import Derived.WalkLawsBesides
import Derived.Deep.QuietTactic
import Derived.BigQuiet
import Derived.Deep.LoopGhost
import Derived.Test.YtdfgpbighadplaaDoorLib
namespace Go.Proofs.YtdfgpbighadplaaDoor
open Go.RowKit

namespace P

def make (c k : Int) : Int := if (c ≤ 1 ∧ 1 ≤ k) ∧ k ≤ 6 then 8 * c + k else 0
def isB (p : Int) : Bool := decide ((1 ≤ p ∧ p ≤ 6) ∨ (9 ≤ p ∧ p ≤ 14))
def color (p : Int) : Int := if isB p then p / 8 else 2
def kind (p : Int) : Int := if isB p then p % 8 else 0
def other (p : Int) : Int := if isB p then (if p ≤ 6 then p + 8 else p - 8) else 0

theorem is_make (p : Int) (h0 : 0 ≤ p) (h1 : p ≤ 255) : (decide (p ≠ 0) && (make (p / 8) (p % 8) == p)) = isB p :=
  all8 (fun p => (decide (p ≠ 0) && (make (p / 8) (p % 8) == p)) = isB p) (by decide +kernel) p h0 h1

theorem make_bd (c k : Int) (h0 : 0 ≤ c) : 0 ≤ make c k ∧ make c k ≤ 14 := by
  unfold make; split <;> omega
theorem color_bd (p : Int) (h0 : 0 ≤ p) (h1 : p ≤ 255) : 0 ≤ color p ∧ color p ≤ 2 :=
  all8 (fun p => 0 ≤ color p ∧ color p ≤ 2) (by decide +kernel) p h0 h1
theorem kind_bd (p : Int) (h0 : 0 ≤ p) (h1 : p ≤ 255) : 0 ≤ kind p ∧ kind p ≤ 6 :=
  all8 (fun p => 0 ≤ kind p ∧ kind p ≤ 6) (by decide +kernel) p h0 h1

theorem color_is (p : Int) (h0 : 0 ≤ p) (h1 : p ≤ 255) : isB p = true → 0 ≤ color p ∧ color p ≤ 1 :=
  all8 (fun p => isB p = true → 0 ≤ color p ∧ color p ≤ 1) (by decide +kernel) p h0 h1
theorem kind_is (p : Int) (h0 : 0 ≤ p) (h1 : p ≤ 255) : isB p = true → 1 ≤ kind p ∧ kind p ≤ 6 :=
  all8 (fun p => isB p = true → 1 ≤ kind p ∧ kind p ≤ 6) (by decide +kernel) p h0 h1
theorem other_make (p : Int) (h0 : 0 ≤ p) (h1 : p ≤ 255) : isB p = true → make (1 - color p) (kind p) = other p :=
  all8 (fun p => isB p = true → make (1 - color p) (kind p) = other p) (by decide +kernel) p h0 h1

def letters (c : Int) : ByteArray := if c = 0 then ⟨#[46, 80, 78, 66, 82, 81, 75]⟩ else ⟨#[46, 112, 110, 98, 114, 113, 107]⟩
theorem letters_size (c : Int) : (letters c).size = 7 := by unfold letters; split <;> rfl
def letter (p : Int) : ByteArray := if isB p then (letters (color p)).extract (kind p).toNat ((kind p).toNat + 1) else ⟨#[]⟩

end P

set_option maxRecDepth 100000 in
set_option maxHeartbeats 400000 in
theorem make_any (c k : Int) (w : World) (h0 : 0 ≤ c) (h1 : c ≤ 255) (h2 : 0 ≤ k) (h3 : k ≤ 255) :
    Calls Tryd.prog 58 #[.int .u8 c, .int .u8 k] w fun e w' => e = .returned (.int .u8 (P.make c k)) ∧ w = w' := by
  go_enter Tryd.func58, Tryd.ntmps58
  go_wp2
  all_goals
    go_ret
    refine ⟨ret_int ?_, rfl⟩
    unfold P.make
    first | rw [if_pos (by omega)] | rw [if_neg (by omega)]

set_option maxRecDepth 100000 in
set_option maxHeartbeats 400000 in
theorem is_any (p : Int) (w : World) (h0 : 0 ≤ p) (h1 : p ≤ 255) :
    Calls Tryd.prog 41 #[.int .u8 p] w fun e w' => e = .returned (.bool (P.isB p)) ∧ w = w' := by
  have H := Lib.hid (P.is_make p h0 h1)
  by_cases hp : p = 0
  · subst hp
    go_enter Tryd.func41, Tryd.ntmps41
    go_wp2
    go_ret
    exact ⟨rfl, rfl⟩
  · have hb : (p == 0) = false := by simpa using hp
    go_enter Tryd.func41, Tryd.ntmps41
    go_wp2_with (go_at_call 58; refine (make_any _ _ _ (by omega) (by omega) (by omega) (by omega)).mono ?_; rintro e w' ⟨rfl, rfl⟩)
    go_ret
    exact ⟨ret_bool (by rw [← H.out]; simp [bne, hb, hp]), rfl⟩

/-- Is, at a number that is known to be a piece, or to be none. -/
theorem is_eq (p : Int) (b : Bool) (w : World) (h0 : 0 ≤ p) (h1 : p ≤ 255) (h : P.isB p = b) :
    Calls Tryd.prog 41 #[.int .u8 p] w fun e w' => e = .returned (.bool b) ∧ w = w' := by
  rw [← h]; exact is_any p w h0 h1

set_option maxRecDepth 100000 in
set_option maxHeartbeats 400000 in
theorem color_any (p : Int) (w : World) (h0 : 0 ≤ p) (h1 : p ≤ 255) :
    Calls Tryd.prog 31 #[.int .u8 p] w fun e w' => e = .returned (.int .u8 (P.color p)) ∧ w = w' := by
  by_cases h : P.isB p = true
  · have H := Lib.hid h
    clear h
    go_enter Tryd.func31, Tryd.ntmps31
    go_wp2_with (go_at_call 41; refine (is_eq _ true _ h0 h1 H.out).mono ?_; rintro e w' ⟨rfl, rfl⟩)
    go_ret
    exact ⟨ret_int (by unfold P.color; rw [if_pos H.out]), rfl⟩
  · have H := Lib.hid h
    clear h
    go_enter Tryd.func31, Tryd.ntmps31
    go_wp2_with (go_at_call 41; refine (is_eq _ false _ h0 h1 (by simpa using H.out)).mono ?_; rintro e w' ⟨rfl, rfl⟩)
    go_ret
    exact ⟨ret_int (by unfold P.color; rw [if_neg H.out]), rfl⟩

set_option maxRecDepth 100000 in
set_option maxHeartbeats 400000 in
theorem kind_any (p : Int) (w : World) (h0 : 0 ≤ p) (h1 : p ≤ 255) :
    Calls Tryd.prog 29 #[.int .u8 p] w fun e w' => e = .returned (.int .u8 (P.kind p)) ∧ w = w' := by
  by_cases h : P.isB p = true
  · have H := Lib.hid h
    clear h
    go_enter Tryd.func29, Tryd.ntmps29
    go_wp2_with (go_at_call 41; refine (is_eq _ true _ h0 h1 H.out).mono ?_; rintro e w' ⟨rfl, rfl⟩)
    go_ret
    exact ⟨ret_int (by unfold P.kind; rw [if_pos H.out]), rfl⟩
  · have H := Lib.hid h
    clear h
    go_enter Tryd.func29, Tryd.ntmps29
    go_wp2_with (go_at_call 41; refine (is_eq _ false _ h0 h1 (by simpa using H.out)).mono ?_; rintro e w' ⟨rfl, rfl⟩)
    go_ret
    exact ⟨ret_int (by unfold P.kind; rw [if_neg H.out]), rfl⟩

end Go.Proofs.YtdfgpbighadplaaDoor
