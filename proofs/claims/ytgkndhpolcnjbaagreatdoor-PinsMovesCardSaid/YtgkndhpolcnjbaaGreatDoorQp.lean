/- Several texts in one: Start, AfL. -/

import Derived.Test.YtgkndhpolcnjbaaGreatDoorQj
namespace Go.Proofs.YtgkndhpolcnjbaaGreatDoor
open Go.RowKit Go.Sort
attribute [local go_sem] Oper.semAt_some
namespace V
def castles (v : Int) : Bool := decide (v < 9) && (v != 4 && v != 8)
/-- A file of the home ranks, put on. -/
def file (c : Nat → Int) (n : Nat) (k : Int) : Nat → Int := upd (upd (upd (upd c (1 + n) k) (9 + n) 1) (57 + n) (8 + k)) (49 + n) 9
end V
end Go.Proofs.YtgkndhpolcnjbaaGreatDoor
namespace Go.Proofs.YtgkndhpolcnjbaaGreatDoor
open Go.RowKit Go.Sort
attribute [local go_sem] Oper.semAt_some
set_option maxRecDepth 100000 in
set_option maxHeartbeats 1000000 in
theorem rpockets_any (v : Nat) (w : World) :
    Calls Tryz.prog 110 #[.int .u8 (v : Int)] w fun e w' => e = .returned (.bool (decide (v = 2))) ∧ Below w.heap.size w w' := by
  have hv : ∃ s a b c d e l, V.of v = #[.string s, .bool a, .bool b, .bool c, .bool d, .bool e, .int .u8 l] ∧ decide (v = 2) = d := by
    by_cases h9 : v < 9
    · match v, h9 with
      | 0, _ | 1, _ | 2, _ | 3, _ | 4, _ | 5, _ | 6, _ | 7, _ | 8, _ => exact ⟨_, _, _, _, _, _, _, rfl, rfl⟩
    · refine ⟨_, _, _, _, _, _, _, (by unfold V.of; split <;> first | omega | rfl), ?_⟩ <;> (rw [decide_eq_false (by omega)])
  obtain ⟨s, a, b, c, d, e, l, hv, r0⟩ := hv
  have hk := fun w => of_k v w
  rw [hv] at hk
  rw [r0]
  clear hv r0
  have H := Lib.hid hk
  clear hk
  have hfd : ∀ w, (Instr.field 178 (.agg #[.string s, .bool a, .bool b, .bool c, .bool d, .bool e, .int .u8 l]) 3).run Tryz.prog w = .ok (.bool d) w := fun _ => by kernel_rfl
  go_enter Tryz.func110, Tryz.ntmps110
  go_wp2_with (go_at_call 148; refine (H.out _).mono ?_; rintro e w1 ⟨rfl, hb1⟩)
  go_ret
  exact ⟨rfl, hb1⟩
end Go.Proofs.YtgkndhpolcnjbaaGreatDoor
