/- The document's answer of layer 14: Goals, within; of layer 7: Castles. -/
import Derived.Test.YtnkkhdcjbjiimaaDoorCastF
namespace Go.Proofs.YtnkkhdcjbjiimaaDoor
open Go.RowKit Go.Sort

set_option maxRecDepth 100000 in
theorem d14goals_any (d : Nat) (w : World) (hd : d < 2) : Calls Tryd.prog 24 #[.int .i64 (d : Int)] w fun e w' => e = .returned (.tuple #[.int .i64 (if d = 0 then 6 else 2), .int .i64 (if d = 0 then 5 else 3)]) ∧ w = w' := by
  rcases (show d = 0 ∨ d = 1 by omega) with rfl | rfl
  all_goals
    go_enter Tryd.func24, Tryd.ntmps24
    go_wp2
    go_ret2
    exact ⟨rfl, rfl⟩
namespace T
def within (s a b : Int) : Bool := (decide (a ≤ s) && decide (s ≤ b)) || (decide (b ≤ s) && decide (s ≤ a))
def castles (v : Int) : Bool := decide (v < 9) && (v != 4 && v != 8)
end T
set_option maxRecDepth 100000 in
theorem within_any (s a b : Int) (w : World) : Calls Tryd.prog 71 #[.int .i64 s, .int .i64 a, .int .i64 b] w fun e w' => e = .returned (.bool (T.within s a b)) ∧ w = w' := by
  have e := Lib.hid (show T.within s a b = ((decide (a ≤ s) && decide (s ≤ b)) || (decide (b ≤ s) && decide (s ≤ a))) from rfl)
  by_cases h1 : a ≤ s <;> by_cases h2 : s ≤ b <;> by_cases h3 : b ≤ s <;> by_cases h4 : s ≤ a
  all_goals

    go_enter Tryd.func71, Tryd.ntmps71
    go_wp2
    go_ret
    exact ⟨ret_bool (by rw [e.out]; simp [h1, h2, h3, h4]), rfl⟩

set_option maxRecDepth 100000 in
set_option maxHeartbeats 1000000 in
theorem castles_any (v : Nat) (w : World) :
    Calls Tryd.prog 37 #[.int .u8 (v : Int)] w fun e w' => e = .returned (.bool (T.castles v)) ∧ Below w.heap.size w w' := by
  have hv : ∃ s a b c d e l, V.of v = #[.string s, .bool a, .bool b, .bool c, .bool d, .bool e, .int .u8 l] ∧ T.castles v = c := by
    by_cases h9 : v < 9
    · match v, h9 with
      | 0, _ | 1, _ | 2, _ | 3, _ | 4, _ | 5, _ | 6, _ | 7, _ | 8, _ => exact ⟨_, _, _, _, _, _, _, rfl, rfl⟩
    · refine ⟨_, _, _, _, _, _, _, (by unfold V.of; split <;> first | omega | rfl), ?_⟩ <;> (unfold T.castles; rw [decide_eq_false (by omega)]; rfl)
  obtain ⟨s, a, b, c, d, e, l, hv, r0⟩ := hv
  have hk := fun w => of_k v w
  rw [hv] at hk
  rw [r0]
  clear hv r0
  have H := Lib.hid hk
  clear hk
  have hfd : ∀ w, (Instr.field 104 (.agg #[.string s, .bool a, .bool b, .bool c, .bool d, .bool e, .int .u8 l]) 2).run Tryd.prog w = .ok (.bool c) w := fun _ => by kernel_rfl
  go_enter Tryd.func37, Tryd.ntmps37
  go_wp2_with (go_at_call 63; refine (H.out _).mono ?_; rintro e w1 ⟨rfl, hb1⟩)
  go_ret
  exact ⟨rfl, hb1⟩

end Go.Proofs.YtnkkhdcjbjiimaaDoor
