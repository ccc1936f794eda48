/- cmp.Compare, cmp.Or at this program's types. -/
import Derived.Test.YtdcmjbebkmicaaaOrdB
namespace Go.Proofs.Ytdcmjbebkmicaaa
open Go.RowKit Go.Sort

namespace O
def cmp (x y : Int) : Int := if x < y then -1 else if y < x then 1 else 0
end O
theorem isNaN8_any (x : Int) (w : World) : Calls Try.prog 59 #[.int .u8 x] w fun e w' => e = .returned (.bool false) ∧ w = w' := by
  go_enter Try.func59, Try.ntmps59
  go_wp2
  go_ret
  exact ⟨rfl, rfl⟩
theorem cmp8_any (x y : Int) (w : World) : Calls Try.prog 36 #[.int .u8 x, .int .u8 y] w fun e w' => e = .returned (.int .i64 (O.cmp x y)) ∧ w = w' := by
  unfold O.cmp
  by_cases h1 : x < y
  · rw [if_pos h1]
    go_enter Try.func36, Try.ntmps36
    go_wp2_with (go_at_call 59; refine (isNaN8_any _ _).mono ?_; rintro e w' ⟨rfl, rfl⟩)
    go_ret
    exact ⟨rfl, rfl⟩
  · rw [if_neg h1]
    by_cases h2 : y < x
    · rw [if_pos h2]
      go_enter Try.func36, Try.ntmps36
      go_wp2_with (go_at_call 59; refine (isNaN8_any _ _).mono ?_; rintro e w' ⟨rfl, rfl⟩)
      go_ret
      exact ⟨rfl, rfl⟩
    · rw [if_neg h2]
      go_enter Try.func36, Try.ntmps36
      go_wp2_with (go_at_call 59; refine (isNaN8_any _ _).mono ?_; rintro e w' ⟨rfl, rfl⟩)
      go_ret
      exact ⟨rfl, rfl⟩
theorem or2_any (b : Nat) (x y : Int) (w : World) (h0 : w.cell? ⟨b, 0, none⟩ = some (.int .i64 x)) (h1 : w.cell? ⟨b, 1, none⟩ = some (.int .i64 y)) :
    Calls Try.prog 35 #[.slice (some ⟨b, 0, none⟩) 2 2] w fun e w' => e = .returned (.int .i64 (if x != 0 then x else y)) ∧ w = w' := by
  by_cases hx : x = 0
  · subst hx
    rw [if_neg (by simp)]
    by_cases hy : y = 0
    · subst hy
      go_enter Try.func35, Try.ntmps35
      go_wp2
      refine wp_loop_rounds 3 ?_
      rw [rounds_succ]
      go_wp2
      rw [rounds_succ]
      go_wp2
      rw [rounds_succ]
      go_wp2
      go_ret
      exact ⟨rfl, rfl⟩
    · have hy' : (y != 0) = true := by simpa using hy
      go_enter Try.func35, Try.ntmps35
      go_wp2
      refine wp_loop_rounds 3 ?_
      rw [rounds_succ]
      go_wp2
      rw [rounds_succ]
      go_wp2
      go_ret
      exact ⟨rfl, rfl⟩
  · have hx' : (x != 0) = true := by simpa using hx
    rw [if_pos hx']
    go_enter Try.func35, Try.ntmps35
    go_wp2
    refine wp_loop_rounds 3 ?_
    rw [rounds_succ]
    go_wp2
    go_ret
    exact ⟨rfl, rfl⟩

end Go.Proofs.Ytdcmjbebkmicaaa
