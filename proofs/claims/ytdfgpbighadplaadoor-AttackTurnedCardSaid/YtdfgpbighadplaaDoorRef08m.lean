/- The document's answer of layer 8: Check, Checkers. -/
import Derived.Test.YtdfgpbighadplaaDoorRef08l
namespace Go.Proofs.YtdfgpbighadplaaDoor
open Go.RowKit Go.Sort

namespace D
def check (c : Nat → Int) (color : Int) : Bool := decide (color ≤ 1) && (decide (0 ≤ king c color) && (U (by' c (king c color) (K.oc color)) != 0))
def checkers (c : Nat → Int) : BitVec 64 := if c 78 ≤ 1 then (if 0 ≤ king c (c 78) then by' c (king c (c 78)) (K.oc (c 78)) else 0#64) else 0#64
end D

set_option maxRecDepth 100000 in
set_option maxHeartbeats 1000000 in
theorem d8check_any (c : Nat → Int) (color : Int) (w : World) (hc : BdOk c) :
    Calls Tryd.prog 17 #[.agg (posC c), .int .u8 color] w fun e w' => e = .returned (.bool (D.check c color)) ∧ Below w.heap.size w w' := by
  have Hc := Lib.hid hc
  clear hc
  by_cases h1 : color ≤ 1
  · by_cases hk : 0 ≤ D.king c color
    · have e := Lib.hid (show D.check c color = (U (D.by' c (D.king c color) (K.oc color)) != 0) by unfold D.check; rw [decide_eq_true h1, decide_eq_true hk]; rfl)
      unfold K.oc at e
      go_enter Tryd.func17, Tryd.ntmps17
      go_wp2_with (first | ((with_reducible refine wp_load_pos_g rfl _ rfl c ?_ ?_); · (exact ⟨_, _, _, rfl, (hb1.block _ (by simp)).trans (heap_alloc_new _ _)⟩)) | ((with_reducible refine wp_load_pos rfl _ rfl c ?_ ?_); · (exact ⟨_, _, _, rfl, heap_alloc_new _ _⟩)) | (go_at_call 33; refine (d8king_any c _ _ Hc.out).mono ?_; rintro e w1 ⟨rfl, hb1⟩) | (go_at_call 10; refine (d8by_any c _ _ _ Hc.out).mono ?_; rintro e w2 ⟨rfl, hb2⟩))
      go_ret
      exact ⟨ret_bool e.out.symm, ((Below.refl _ _).alloc (Nat.le_refl _) _).trans ((below_next hb1 hb2).mono (by simp))⟩
    · have e := Lib.hid (show D.check c color = false by unfold D.check; rw [decide_eq_false hk]; simp)
      have hd : decide (0 ≤ D.king c color) = false := decide_eq_false hk
      clear hk
      go_enter Tryd.func17, Tryd.ntmps17
      go_wp2_with (first | ((with_reducible refine wp_load_pos rfl _ rfl c ?_ ?_); · (exact ⟨_, _, _, rfl, heap_alloc_new _ _⟩)) | (go_at_call 33; refine (d8king_any c _ _ Hc.out).mono ?_; rintro e w1 ⟨rfl, hb1⟩))
      go_ret
      exact ⟨ret_bool e.out.symm, ((Below.refl _ _).alloc (Nat.le_refl _) _).trans (hb1.mono (by simp))⟩
  · have e := Lib.hid (show D.check c color = false by unfold D.check; rw [decide_eq_false h1]; rfl)
    go_enter Tryd.func17, Tryd.ntmps17
    go_wp2
    go_ret
    exact ⟨ret_bool e.out.symm, (Below.refl _ _).alloc (Nat.le_refl _) _⟩

set_option maxRecDepth 100000 in
set_option maxHeartbeats 1000000 in
theorem d8checkers_any (c : Nat → Int) (w : World) (hc : BdOk c) :
    Calls Tryd.prog 19 #[.agg (posC c)] w fun e w' => e = .returned (.int .u64 (U (D.checkers c))) ∧ Below w.heap.size w w' := by
  have Hc := Lib.hid hc
  clear hc
  have hcv : ∀ w1 : World, Below (w.alloc (.cells (posC c) 31)).heap.size (w.alloc (.cells (posC c) 31)) w1 → w1.cell? ⟨w.heap.size, 78, none⟩ = some (.int .u8 (c 78)) := fun w1 hb => by
    have hp : w1.heap[w.heap.size]? = some (.cells (posC c) 31 (0, 0)) := (hb.block _ (by simp)).trans (heap_alloc_new _ _)
    simp only [World.cell?, hp]; exact posC_78 c
  by_cases h1 : c 78 ≤ 1
  · by_cases hk : 0 ≤ D.king c (c 78)
    · have e := Lib.hid (show D.checkers c = D.by' c (D.king c (c 78)) (K.oc (c 78)) by unfold D.checkers; rw [if_pos h1, if_pos hk])
      unfold K.oc at e
      go_enter Tryd.func19, Tryd.ntmps19
      go_wp2_with (first | ((with_reducible refine wp_load_pos rfl _ rfl c ?_ ?_); · (exact ⟨_, _, _, rfl, by first | exact heap_alloc_new _ _ | exact (hb1.block _ (by simp)).trans (heap_alloc_new _ _)⟩)) | (go_at_call 33; refine (d8king_any c _ _ Hc.out).mono ?_; rintro e w1 ⟨rfl, hb1⟩; have hcw := hcv _ hb1) | (go_at_call 10; refine (d8by_any c _ _ _ Hc.out).mono ?_; rintro e w2 ⟨rfl, hb2⟩))
      go_ret
      exact ⟨ret_int (by rw [e.out]), ((Below.refl _ _).alloc (Nat.le_refl _) _).trans ((below_next hb1 hb2).mono (by simp))⟩
    · have e := Lib.hid (show D.checkers c = 0#64 by unfold D.checkers; rw [if_pos h1, if_neg hk])
      go_enter Tryd.func19, Tryd.ntmps19
      go_wp2_with (first | ((with_reducible refine wp_load_pos rfl _ rfl c ?_ ?_); · (exact ⟨_, _, _, rfl, heap_alloc_new _ _⟩)) | (go_at_call 33; refine (d8king_any c _ _ Hc.out).mono ?_; rintro e w1 ⟨rfl, hb1⟩; have hcw := hcv _ hb1))
      go_ret
      exact ⟨ret_int (by rw [e.out]; rfl), ((Below.refl _ _).alloc (Nat.le_refl _) _).trans (hb1.mono (by simp))⟩
  · have e := Lib.hid (show D.checkers c = 0#64 by unfold D.checkers; rw [if_neg h1])
    go_enter Tryd.func19, Tryd.ntmps19
    go_wp2
    go_ret
    exact ⟨ret_int (by rw [e.out]; rfl), (Below.refl _ _).alloc (Nat.le_refl _) _⟩

end Go.Proofs.YtdfgpbighadplaaDoor
