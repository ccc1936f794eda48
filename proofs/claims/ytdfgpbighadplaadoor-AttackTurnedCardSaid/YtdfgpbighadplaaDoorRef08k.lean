/- The document's answer of layer 8: By, From at no square; every way. -/
import Derived.Test.YtdfgpbighadplaaDoorRef08j
namespace Go.Proofs.YtdfgpbighadplaaDoor
open Go.RowKit Go.Sort

namespace D
def by' (c : Nat → Int) (s color : Int) : BitVec 64 := if K.there s = true then byTo c s.toNat color 64 else 0#64
def from' (c : Nat → Int) (s : Int) : BitVec 64 := if K.there s = true then fromTo c s.toNat 64 else 0#64
end D

set_option maxRecDepth 100000 in
set_option maxHeartbeats 1000000 in
theorem d8from_out (c : Nat → Int) (s : Int) (w : World) (h : s < 0 ∨ 64 ≤ s) :
    Calls Tryd.prog 15 #[.agg (posC c), .int .i64 s] w fun e w' => e = .returned (.int .u64 0) ∧ Below w.heap.size w w' := by
  rcases h with h | h
  all_goals
    go_enter Tryd.func15, Tryd.ntmps15
    go_wp2
    have Hb0 := Lib.hid ((Below.refl w.heap.size w).alloc (Nat.le_refl _) (.cells (posC c) 31))
    go_loopw [5, 6] (fun v i wr => v = .int .u64 0 ∧ i = .int .i64 0 ∧ Below w.heap.size w wr) (fun _ _ _ => 0)
    case atStart => exact ⟨rfl, rfl, Hb0.out⟩
    case round =>
      obtain ⟨rfl, rfl, hbr⟩ := hrel
      go_wp2
      go_ret
      exact ⟨rfl, hbr⟩

set_option maxRecDepth 100000 in
set_option maxHeartbeats 1000000 in
theorem d8by_out (c : Nat → Int) (s color : Int) (w : World) (h : s < 0 ∨ 64 ≤ s) :
    Calls Tryd.prog 10 #[.agg (posC c), .int .i64 s, .int .u8 color] w fun e w' => e = .returned (.int .u64 0) ∧ Below w.heap.size w w' := by
  rcases h with h | h
  all_goals
    go_enter Tryd.func10, Tryd.ntmps10
    go_wp2
    have Hb0 := Lib.hid ((Below.refl w.heap.size w).alloc (Nat.le_refl _) (.cells (posC c) 31))
    go_loopw [7, 8] (fun v i wr => v = .int .u64 0 ∧ i = .int .i64 0 ∧ Below w.heap.size w wr) (fun _ _ _ => 0)
    case atStart => exact ⟨rfl, rfl, Hb0.out⟩
    case round =>
      obtain ⟨rfl, rfl, hbr⟩ := hrel
      go_wp2
      go_ret
      exact ⟨rfl, hbr⟩

end Go.Proofs.YtdfgpbighadplaaDoor
