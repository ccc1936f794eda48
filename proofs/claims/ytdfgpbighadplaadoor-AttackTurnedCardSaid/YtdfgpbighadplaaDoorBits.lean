/- The program's package bits: what each function computes. -/
import Derived.Test.YtdfgpbighadplaaDoorRows
import Derived.WalkKit
import Derived.WalkSpells
import Derived.Test.YtdfgpbighadplaaDoorU64
import Derived.Test.YtdfgpbighadplaaDoorTail
import Derived.Test.YtdfgpbighadplaaDoorBitsA
namespace Go.Proofs.YtdfgpbighadplaaDoor
open Go.RowKit Go.Sort

namespace B
def one (s : Int) : BitVec 64 := if 0 ≤ s ∧ s < 64 then 1#64 <<< s.toNat else 0#64
def fA : BitVec 64 := 0x0101010101010101#64
def fH : BitVec 64 := 0x8080808080808080#64
def put (b : BitVec 64) (s : Int) : BitVec 64 := bOr b (one s)
def shift (b : BitVec 64) (d : Nat) : BitVec 64 :=
  match d with
  | 0 => bAndn (bShl b 8) 0#64
  | 1 => bAndn (bShl b 9) fA
  | 2 => bAndn (bShl b 1) fA
  | 3 => bAndn (bShr b 7) fA
  | 4 => bAndn (bShr b 8) 0#64
  | 5 => bAndn (bShr b 9) fH
  | 6 => bAndn (bShr b 1) fH
  | 7 => bAndn (bShl b 7) fH
  | _ => 0#64
end B

theorem B.one_out (s : Int) (h : s < 0 ∨ 64 ≤ s) : B.one s = 0#64 := by unfold B.one; rw [if_neg (by omega)]
theorem B.one_val (s : Int) (h0 : 0 ≤ s) (h1 : s < 64) : IntKind.u64.wrap (2 ^ s.toNat) = U (B.one s) := by
  unfold B.one
  rw [if_pos ⟨h0, h1⟩]
  have := bv_shl_nat 1#64 s.toNat
  rw [Nat.min_eq_left (by omega), show U 1#64 = 1 from rfl, Int.one_mul] at this
  exact this

set_option maxRecDepth 100000 in
set_option maxHeartbeats 400000 in
theorem one_any (s : Int) (w : World) :
    Calls Tryd.prog 68 #[.int .i64 s] w fun e w' => e = .returned (.int .u64 (U (B.one s))) ∧ w = w' := by
  by_cases h : s < 0
  · have e := Lib.hid (B.one_out s (.inl h))
    go_enter Tryd.func68, Tryd.ntmps68
    go_wp2
    go_ret
    exact ⟨ret_int (by rw [e.out]; rfl), rfl⟩
  · by_cases h2 : 64 ≤ s
    · have e := Lib.hid (B.one_out s (.inr h2))
      go_enter Tryd.func68, Tryd.ntmps68
      go_wp2
      go_ret
      exact ⟨ret_int (by rw [e.out]; rfl), rfl⟩
    · have e := Lib.hid (B.one_val s (by omega) (by omega))
      go_enter Tryd.func68, Tryd.ntmps68
      go_wp2
      go_ret
      exact ⟨ret_int (by rw [e.out]), rfl⟩

set_option maxRecDepth 100000 in
set_option maxHeartbeats 400000 in
theorem put_any (b : BitVec 64) (s : Int) (w : World) :
    Calls Tryd.prog 57 #[.int .u64 (U b), .int .i64 s] w fun e w' => e = .returned (.int .u64 (U (B.put b s))) ∧ w = w' := by
  go_enter Tryd.func57, Tryd.ntmps57
  go_wp2_with (go_at_call 68; refine (one_any _ _).mono ?_; rintro e w' ⟨rfl, rfl⟩)
  go_ret
  exact ⟨rfl, rfl⟩

set_option maxRecDepth 100000 in
set_option maxHeartbeats 1000000 in
theorem bshift_any (b : BitVec 64) (d : Nat) (hd : d < 8) (w : World) :
    Calls Tryd.prog 69 #[.int .u64 (U b), .int .i64 (d : Int)] w fun e w' => e = .returned (.int .u64 (U (B.shift b d))) ∧ Below w.heap.size w w' := by
  have cA : ∀ x : BitVec 64, bits .andNot .u64 (U x) 72340172838076673 = U (bAndn x B.fA) := fun x => bv_andNot x B.fA
  have cH : ∀ x : BitVec 64, bits .andNot .u64 (U x) 9259542123273814144 = U (bAndn x B.fH) := fun x => bv_andNot x B.fH
  have c0 : ∀ x : BitVec 64, bits .andNot .u64 (U x) 0 = U (bAndn x 0#64) := fun x => bv_andNot x 0#64
  match d, hd with
  | 0, _ =>
    have hi : ∀ w, (Instr.index 87 (.agg B.stepsA) (.int .i64 0)).run Tryd.prog w = .ok (.agg #[.int .i64 8, .int .u64 0]) w := fun _ => by kernel_rfl
    go_enter Tryd.func69, Tryd.ntmps69
    go_wp2_with (go_at_call 73; refine (bsteps_any _).mono ?_; rintro e w' ⟨rfl, hb⟩)
    go_quiet (fail)
    go_wp2
    go_ret
    exact ⟨ret_int (by unfold B.shift; rfl), below_drewN (hb.alloc hb.size _) _⟩
  | 1, _ =>
    have hi : ∀ w, (Instr.index 87 (.agg B.stepsA) (.int .i64 1)).run Tryd.prog w = .ok (.agg #[.int .i64 9, .int .u64 72340172838076673]) w := fun _ => by kernel_rfl
    go_enter Tryd.func69, Tryd.ntmps69
    go_wp2_with (go_at_call 73; refine (bsteps_any _).mono ?_; rintro e w' ⟨rfl, hb⟩)
    go_quiet (fail)
    go_wp2
    go_ret
    exact ⟨ret_int (by unfold B.shift; rfl), below_drewN (hb.alloc hb.size _) _⟩
  | 2, _ =>
    have hi : ∀ w, (Instr.index 87 (.agg B.stepsA) (.int .i64 2)).run Tryd.prog w = .ok (.agg #[.int .i64 1, .int .u64 72340172838076673]) w := fun _ => by kernel_rfl
    go_enter Tryd.func69, Tryd.ntmps69
    go_wp2_with (go_at_call 73; refine (bsteps_any _).mono ?_; rintro e w' ⟨rfl, hb⟩)
    go_quiet (fail)
    go_wp2
    go_ret
    exact ⟨ret_int (by unfold B.shift; rfl), below_drewN (hb.alloc hb.size _) _⟩
  | 3, _ =>
    have hi : ∀ w, (Instr.index 87 (.agg B.stepsA) (.int .i64 3)).run Tryd.prog w = .ok (.agg #[.int .i64 (-7), .int .u64 72340172838076673]) w := fun _ => by kernel_rfl
    go_enter Tryd.func69, Tryd.ntmps69
    go_wp2_with (go_at_call 73; refine (bsteps_any _).mono ?_; rintro e w' ⟨rfl, hb⟩)
    go_quiet (fail)
    go_wp2
    go_ret
    exact ⟨ret_int (by unfold B.shift; rfl), below_drewN (hb.alloc hb.size _) _⟩
  | 4, _ =>
    have hi : ∀ w, (Instr.index 87 (.agg B.stepsA) (.int .i64 4)).run Tryd.prog w = .ok (.agg #[.int .i64 (-8), .int .u64 0]) w := fun _ => by kernel_rfl
    go_enter Tryd.func69, Tryd.ntmps69
    go_wp2_with (go_at_call 73; refine (bsteps_any _).mono ?_; rintro e w' ⟨rfl, hb⟩)
    go_quiet (fail)
    go_wp2
    go_ret
    exact ⟨ret_int (by unfold B.shift; rfl), below_drewN (hb.alloc hb.size _) _⟩
  | 5, _ =>
    have hi : ∀ w, (Instr.index 87 (.agg B.stepsA) (.int .i64 5)).run Tryd.prog w = .ok (.agg #[.int .i64 (-9), .int .u64 9259542123273814144]) w := fun _ => by kernel_rfl
    go_enter Tryd.func69, Tryd.ntmps69
    go_wp2_with (go_at_call 73; refine (bsteps_any _).mono ?_; rintro e w' ⟨rfl, hb⟩)
    go_quiet (fail)
    go_wp2
    go_ret
    exact ⟨ret_int (by unfold B.shift; rfl), below_drewN (hb.alloc hb.size _) _⟩
  | 6, _ =>
    have hi : ∀ w, (Instr.index 87 (.agg B.stepsA) (.int .i64 6)).run Tryd.prog w = .ok (.agg #[.int .i64 (-1), .int .u64 9259542123273814144]) w := fun _ => by kernel_rfl
    go_enter Tryd.func69, Tryd.ntmps69
    go_wp2_with (go_at_call 73; refine (bsteps_any _).mono ?_; rintro e w' ⟨rfl, hb⟩)
    go_quiet (fail)
    go_wp2
    go_ret
    exact ⟨ret_int (by unfold B.shift; rfl), below_drewN (hb.alloc hb.size _) _⟩
  | 7, _ =>
    have hi : ∀ w, (Instr.index 87 (.agg B.stepsA) (.int .i64 7)).run Tryd.prog w = .ok (.agg #[.int .i64 7, .int .u64 9259542123273814144]) w := fun _ => by kernel_rfl
    go_enter Tryd.func69, Tryd.ntmps69
    go_wp2_with (go_at_call 73; refine (bsteps_any _).mono ?_; rintro e w' ⟨rfl, hb⟩)
    go_quiet (fail)
    go_wp2
    go_ret
    exact ⟨ret_int (by unfold B.shift; rfl), below_drewN (hb.alloc hb.size _) _⟩

end Go.Proofs.YtdfgpbighadplaaDoor
