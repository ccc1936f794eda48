/- Several texts in one: Law16a. -/

import Derived.Test.YtgkndhpolcnjbaaGreatDoorZb4
import Derived.Test.YtgkndhpolcnjbaaGreatDoorZb6
import Derived.Test.YtgkndhpolcnjbaaGreatDoorZd
namespace Go.Proofs.YtgkndhpolcnjbaaGreatDoor
open Go.RowKit Go.Sort
set_option maxRecDepth 100000 in
set_option maxHeartbeats 4000000 in
theorem afterAll_walk (c : Nat → Int) (w : World) (hc : PosOk c) (hT : Tb w) :
    Calls Tryz.prog 3 #[.agg (posC c)] w fun e w' => e = .returned (.bool true) ∧ Below w.heap.size w w' := by
  have hp := PosAt.new w c
  have hb0 : Below w.heap.size w (w.alloc (.cells (posC c) 31)) := (Below.refl _ _).alloc (Nat.le_refl _) _
  obtain ⟨g, hg⟩ : ∃ g, w.heap.size = g := ⟨_, rfl⟩
  have HT : Hid (∀ W, Below g w W → Tb W) := Lib.hid (fun W hb => tb_below hT (by rw [hg]; exact hb))
  have hp31 := Tryz.underlying31
  have HLL : Hid ((A.all c == A.all c) = true) := Lib.hid (by simp)
  clear hT
  go_enter Tryz.func3, Tryz.ntmps3
  go_wp2_with fail
  rw [hg] at hp hb0
  try rw [hg]
  obtain ⟨W, hW⟩ : ∃ W, w.alloc (.cells (posC c) 31) = W := ⟨_, rfl⟩
  rw [hW] at hp hb0 ⊢
  refine wp_region_held (S := fun w' => PosAt w' g c ∧ Below g w w') (by kernel_rfl) ?_
  have hSd : PosAt W.drew g c ∧ Below g w W.drew := ⟨⟨hp.heap⟩, M.below_drew hb0 1⟩
  clear hp hb0 hW
  obtain ⟨V, hV⟩ : ∃ V, W.drew = V := ⟨_, rfl⟩
  rw [hV] at hSd
  rw [show ({ heap := W.heap, tape := W.tape, drawn := W.drawn + 1, os := W.os, output := W.output } : World) = V from hV]
  clear hV
  refine takeD 0 (some 3) (.agg (posC c)) (by kernel_rfl) (by kernel_rfl) (by kernel_rfl) (by kernel_rfl) (by kernel_rfl) (fun _ _ _ h => h) (yieldsIf_load_mid (by kernel_rfl) 31 (.tmp 1) (by kernel_rfl) g 0 (by kernel_rfl) (posL c) _ (fun _ h => A.posR h.1) hp31 rfl (A.posL_info c)) hSd ?_
  simp only [Act.put, List.setIfInBounds_toArray, List.set_cons_succ, List.set_cons_zero]
  refine takeD 2 (some 5) (.agg (posC c)) (by kernel_rfl) (by kernel_rfl) (by kernel_rfl) (by kernel_rfl) (by kernel_rfl) (fun _ _ _ h => h) (yieldsIf_load_mid (by kernel_rfl) 31 (.tmp 1) (by kernel_rfl) g 0 (by kernel_rfl) (posL c) _ (fun _ h => A.posR h.1) hp31 rfl (A.posL_info c)) hSd ?_
  simp only [Act.put, List.setIfInBounds_toArray, List.set_cons_succ, List.set_cons_zero]
  refine takeCallE 1 (some 4) 13 (#[.agg (posC c)]) (fun v w9 => w9.ownsRow V.heap.size 40 5 v (A.all c).length (M.cells (A.all c)) ∧ Below V.heap.size V w9) (by kernel_rfl) (by kernel_rfl) (by kernel_rfl) (by kernel_rfl) (by kernel_rfl) (aall_any c _ hc (HT.out _ hSd.2)) (fun v1 w1 hR1 => ?_)
  simp only [Act.put, List.setIfInBounds_toArray, List.set_cons_succ, List.set_cons_zero]
  have hS1 : PosAt w1 g c ∧ Below g w w1 := ⟨hSd.1.below hR1.2, A.next_g hSd.2 hSd.1 hR1.2⟩
  refine ⟨hS1, ?_⟩
  have hb1 := hR1.2.size
  refine takeCallE 3 (some 6) 14 (#[.agg (posC c)]) (fun v w9 => w9.ownsRow w1.heap.size 40 5 v (A.all c).length (M.cells (A.all c)) ∧ Below w1.heap.size w1 w9) (by kernel_rfl) (by kernel_rfl) (by kernel_rfl) (by kernel_rfl) (by kernel_rfl) (d16all_any c _ hc) (fun v2 w2 hR2 => ?_)
  simp only [Act.put, List.setIfInBounds_toArray, List.set_cons_succ, List.set_cons_zero]
  have hS2 : PosAt w2 g c ∧ Below g w w2 := ⟨hS1.1.below hR2.2, A.next_g hS1.2 hS1.1 hR2.2⟩
  refine ⟨hS2, ?_⟩
  have hSm : Calls Tryz.prog 12 #[v1, v2] w2 fun e w' => e = .returned (.bool true) ∧ Below w2.heap.size w2 w' := by
    have := same13_any (A.all c) (A.all c) v1 v2 _ _ _ w2 (owns_below hR1.1 hR2.2) hR2.1
    rwa [HLL.out] at this
  clear hR1 hR2 hS1 hb1
  refine takeCall 4 (some 7) 12 (#[v1, v2]) (.bool true) (fun w9 => Below w2.heap.size w2 w9) (by kernel_rfl) (by kernel_rfl) (by kernel_rfl) (by kernel_rfl) (by kernel_rfl) hSm (fun w3 hR3 => ?_)
  simp only [Act.put, List.setIfInBounds_toArray, List.set_cons_succ, List.set_cons_zero]
  have hS3 : PosAt w3 g c ∧ Below g w w3 := ⟨hS2.1.below hR3, A.next_g hS2.2 hS2.1 hR3⟩
  refine ⟨hS3, ?_⟩
  clear hSm hR3 hS2
  refine takeD 5 (some 8) (.bool true) (by kernel_rfl) (by kernel_rfl) (by kernel_rfl) (by kernel_rfl) (by kernel_rfl) (fun _ _ _ h => h) (yi_pure (v0 := .bool true) (by kernel_rfl) (fun _ => by kernel_rfl) (rfl)) hS3 ?_
  simp only [Act.put, List.setIfInBounds_toArray, List.set_cons_succ, List.set_cons_zero]
  refine takeCall 6 (some 9) 15 (#[]) (.bool true) (fun w9 => Below w3.heap.size w3 w9) (by kernel_rfl) (by kernel_rfl) (by kernel_rfl) (by kernel_rfl) (by kernel_rfl) (awake16_any w3 (HT.out _ hS3.2)) (fun w4 hR4 => ?_)
  simp only [Act.put, List.setIfInBounds_toArray, List.set_cons_succ, List.set_cons_zero]
  have hS4 : PosAt w4 g c ∧ Below g w w4 := ⟨hS3.1.below hR4, A.next_g hS3.2 hS3.1 hR4⟩
  refine ⟨hS4, ?_⟩
  clear hR4 hS3
  refine takeD 7 (some 10) (.bool true) (by kernel_rfl) (by kernel_rfl) (by kernel_rfl) (by kernel_rfl) (by kernel_rfl) (fun _ _ _ h => h) (yi_pure (v0 := .bool true) (by kernel_rfl) (fun _ => by kernel_rfl) (rfl)) hS4 ?_
  simp only [Act.put, List.setIfInBounds_toArray, List.set_cons_succ, List.set_cons_zero]
  refine takeD 8 (some 2) (.bool true) (by kernel_rfl) (by kernel_rfl) (by kernel_rfl) (by kernel_rfl) (by kernel_rfl) (fun _ _ _ h => h) (yi_pure (v0 := .bool true) (by kernel_rfl) (fun _ => by kernel_rfl) (rfl)) hS4 ?_
  simp only [Act.put, List.setIfInBounds_toArray, List.set_cons_succ, List.set_cons_zero]
  refine wpAnyH_done (by kernel_rfl) ?_ _
  have HF := Lib.hid (hg ▸ hS4.2 : Below w.heap.size w w4)
  clear hS4
  go_wp2
  go_ret
  exact ⟨rfl, HF.out⟩
end Go.Proofs.YtgkndhpolcnjbaaGreatDoor
