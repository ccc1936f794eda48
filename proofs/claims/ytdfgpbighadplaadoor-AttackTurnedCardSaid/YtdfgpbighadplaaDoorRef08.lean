/- The document's answer of layer 8: the small functions. -/
import Derived.Test.YtdfgpbighadplaaDoorBoard
namespace Go.Proofs.YtdfgpbighadplaaDoor
open Go.RowKit Go.Sort

namespace D
/-- A piece's color: any number's. -/
def color (x : Int) : Int := x / 8
def abs (n : Int) : Int := if n < 0 then -n else n
def sign (n : Int) : Int := if n < 0 then -1 else if n > 0 then 1 else 0
def is (c : Nat → Int) (s : Nat) (color kind : Int) : Bool := P.kind (c (1 + s)) == kind && D.color (c (1 + s)) == color
def beside (a b : Int) : Bool := decide (a ≠ b) && (decide (abs (a / 8 - b / 8) ≤ 1) && decide (abs (a % 8 - b % 8) ≤ 1))
def royal (v color : Int) : Bool := decide (v < 9) && (decide (color < 2) && (decide (v ≠ 4) && (decide (v ≠ 7) || decide (color = 1))))
theorem kind_of (x : Int) (h0 : 0 ≤ x) (h1 : x ≤ 255) : P.kind x = if x > 15 ∨ x % 8 < 1 ∨ x % 8 > 6 then 0 else x % 8 :=
  all8 (fun x => P.kind x = if x > 15 ∨ x % 8 < 1 ∨ x % 8 > 6 then 0 else x % 8) (by decide +kernel) x h0 h1
end D

set_option maxRecDepth 100000 in
set_option maxHeartbeats 1000000 in
theorem d8kind_any (x : Int) (w : World) (h0 : 0 ≤ x) (h1 : x ≤ 255) :
    Calls Tryd.prog 22 #[.int .u8 x] w fun e w' => e = .returned (.int .u8 (P.kind x)) ∧ w = w' := by
  have e := Lib.hid (D.kind_of x h0 h1)
  have hm : x.tmod 8 = x % 8 := Int.tmod_eq_emod_of_nonneg h0
  go_enter Tryd.func22, Tryd.ntmps22
  go_wp2
  all_goals
    go_ret
    refine ⟨ret_int ?_, rfl⟩
    rw [e.out]
    first | rw [if_pos (by omega)] | rw [if_neg (by omega)] | skip
    try first | rfl | omega

set_option maxRecDepth 100000 in
set_option maxHeartbeats 1000000 in
theorem d8color_any (x : Int) (w : World) (h0 : 0 ≤ x) (h1 : x ≤ 255) :
    Calls Tryd.prog 23 #[.int .u8 x] w fun e w' => e = .returned (.int .u8 (D.color x)) ∧ w = w' := by
  have hm : x.tdiv 8 = x / 8 := Int.tdiv_eq_ediv_of_nonneg h0
  have hn : x / 8 % 256 = x / 8 := by omega
  go_enter Tryd.func23, Tryd.ntmps23
  go_wp2
  go_ret
  exact ⟨ret_int (by unfold D.color; omega), rfl⟩

set_option maxRecDepth 100000 in
set_option maxHeartbeats 1000000 in
theorem d8abs_any (n : Int) (w : World) (h0 : -64 ≤ n) (h1 : n ≤ 64) :
    Calls Tryd.prog 34 #[.int .i64 n] w fun e w' => e = .returned (.int .i64 (D.abs n)) ∧ w = w' := by
  by_cases h : n < 0
  · have e := Lib.hid (show D.abs n = -n by unfold D.abs; rw [if_pos h])
    go_enter Tryd.func34, Tryd.ntmps34
    go_wp2
    go_ret
    exact ⟨ret_int (by rw [e.out]), rfl⟩
  · have e := Lib.hid (show D.abs n = n by unfold D.abs; rw [if_neg h])
    go_enter Tryd.func34, Tryd.ntmps34
    go_wp2
    go_ret
    exact ⟨ret_int (by rw [e.out]), rfl⟩

set_option maxRecDepth 100000 in
set_option maxHeartbeats 1000000 in
theorem d8sign_any (n : Int) (w : World) :
    Calls Tryd.prog 56 #[.int .i64 n] w fun e w' => e = .returned (.int .i64 (D.sign n)) ∧ w = w' := by
  by_cases h : n < 0
  · have e := Lib.hid (show D.sign n = -1 by unfold D.sign; rw [if_pos h])
    go_enter Tryd.func56, Tryd.ntmps56
    go_wp2
    go_ret
    exact ⟨ret_int (by rw [e.out]), rfl⟩
  · by_cases h2 : n > 0
    · have e := Lib.hid (show D.sign n = 1 by unfold D.sign; rw [if_neg h, if_pos h2])
      go_enter Tryd.func56, Tryd.ntmps56
      go_wp2
      go_ret
      exact ⟨ret_int (by rw [e.out]), rfl⟩
    · have e := Lib.hid (show D.sign n = 0 by unfold D.sign; rw [if_neg h, if_neg h2])
      go_enter Tryd.func56, Tryd.ntmps56
      go_wp2
      go_ret
      exact ⟨ret_int (by rw [e.out]), rfl⟩

set_option maxRecDepth 100000 in
set_option maxHeartbeats 1000000 in
theorem d7royal_any (v color : Int) (w : World) :
    Calls Tryd.prog 54 #[.int .u8 v, .int .u8 color] w fun e w' => e = .returned (.bool (D.royal v color)) ∧ w = w' := by
  by_cases h1 : v < 9
  · by_cases h2 : color < 2
    · by_cases h4 : v = 4
      · subst h4
        go_enter Tryd.func54, Tryd.ntmps54
        go_wp2
        go_ret
        exact ⟨ret_bool (by simp [D.royal]), rfl⟩
      · by_cases h7 : v = 7
        · subst h7
          by_cases hc : color = 1
          · subst hc
            go_enter Tryd.func54, Tryd.ntmps54
            go_wp2
            go_ret
            exact ⟨ret_bool (by simp [D.royal]), rfl⟩
          · have e := Lib.hid hc
            have hb : (color == 1) = false := by simpa using hc
            go_enter Tryd.func54, Tryd.ntmps54
            go_wp2
            go_ret
            exact ⟨ret_bool (by simp [D.royal, e.out]), rfl⟩
        · have e := Lib.hid (And.intro (And.intro h1 h2) (And.intro h4 h7))
          have hb4 : (v == 4) = false := by simpa using h4
          have hb7 : (v == 7) = false := by simpa using h7
          have hc4 : (v != 4) = true := by simpa using h4
          have hc7 : (v != 7) = true := by simpa using h7
          go_enter Tryd.func54, Tryd.ntmps54
          go_wp2
          go_ret
          exact ⟨ret_bool (by simp [D.royal, e.out]), rfl⟩
    · have e := Lib.hid h2
      go_enter Tryd.func54, Tryd.ntmps54
      go_wp2
      go_ret
      exact ⟨ret_bool (by simp [D.royal]; intros; have := e.out; omega), rfl⟩
  · have e := Lib.hid h1
    go_enter Tryd.func54, Tryd.ntmps54
    go_wp2
    go_ret
    exact ⟨ret_bool (by simp [D.royal]; intros; have := e.out; omega), rfl⟩

end Go.Proofs.YtdfgpbighadplaaDoor
