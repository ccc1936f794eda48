/- Several texts in one: Law16b. -/

import Derived.Test.YtgkndhpolcnjbaaGreatDoorZb4
import Derived.Test.YtgkndhpolcnjbaaGreatDoorZa4
namespace Go.Proofs.YtgkndhpolcnjbaaGreatDoor
open Go.RowKit Go.Sort
set_option maxRecDepth 100000 in
set_option maxHeartbeats 4000000 in
theorem afterBlown_walk (c : Nat → Int) (s : Int) (w : World) (hc : PosOk c) (hT : Tb w) :
    Calls Tryz.prog 4 #[.agg (posC c), .int .i64 s] w fun e w' => e = .returned (.bool true) ∧ Below w.heap.size w w' := by
  have hp := PosAt.new w c
  have hb0 : Below w.heap.size w (w.alloc (.cells (posC c) 31)) := (Below.refl _ _).alloc (Nat.le_refl _) _
  obtain ⟨g, hg⟩ : ∃ g, w.heap.size = g := ⟨_, rfl⟩
  have HT : Hid (∀ W, Below g w W → Tb W) := Lib.hid (fun W hb => tb_below hT (by rw [hg]; exact hb))
  have hp31 := Tryz.underlying31
  obtain ⟨u, hu⟩ : ∃ u, U (A.dblown c s) = u := ⟨_, rfl⟩
  have HB1 : Hid (∀ W, Calls Tryz.prog 16 #[.agg (posC c), .int .i64 s] W fun e w' => e = .returned (.int .u64 u) ∧ Below W.heap.size W w') := Lib.hid (fun W => by have := blown_any c s W (pos_bd hc); rwa [A.blown_eq c s (pos_bd hc), hu] at this)
  have HB2 : Hid (∀ W, Calls Tryz.prog 17 #[.agg (posC c), .int .i64 s] W fun e w' => e = .returned (.int .u64 u) ∧ Below W.heap.size W w') := Lib.hid (fun W => by have := d16blown_any c s W (pos_bd hc); rwa [hu] at this)
  clear hu hc
  clear hT
  go_enter Tryz.func4, Tryz.ntmps4
  go_wp2_with fail
  rw [hg] at hp hb0
  try rw [hg]
  obtain ⟨W, hW⟩ : ∃ W, w.alloc (.cells (posC c) 31) = W := ⟨_, rfl⟩
  rw [hW] at hp hb0 ⊢
  refine wp_region_held (S := fun w' => PosAt w' g c ∧ Below g w w') (by kernel_rfl) ?_
  have hSd : PosAt W.drew g c ∧ Below g w W.drew := ⟨⟨hp.heap⟩, M.below_drew hb0 1⟩
  clear hp hb0 hW
  obtain ⟨V, hV⟩ : ∃ V, W.drew = V := ⟨_, rfl⟩
  rw [hV] at hSd
  rw [show ({ heap := W.heap, tape := W.tape, drawn := W.drawn + 1, os := W.os, output := W.output } : World) = V from hV]
  clear hV
  refine takeD 0 (some 5) (.agg (posC c)) (by kernel_rfl) (by kernel_rfl) (by kernel_rfl) (by kernel_rfl) (by kernel_rfl) (fun _ _ _ h => h) (yieldsIf_load_mid (by kernel_rfl) 31 (.tmp 2) (by kernel_rfl) g 0 (by kernel_rfl) (posL c) _ (fun _ h => A.posR h.1) hp31 rfl (A.posL_info c)) hSd ?_
  simp only [Act.put, List.setIfInBounds_toArray, List.set_cons_succ, List.set_cons_zero]
  refine takeD 1 (some 6) (.int .i64 s) (by kernel_rfl) (by kernel_rfl) (by kernel_rfl) (by kernel_rfl) (by kernel_rfl) (fun _ _ _ h => h) (yi_pure (v0 := .int .i64 s) (by kernel_rfl) (fun _ => by kernel_rfl) (rfl)) hSd ?_
  simp only [Act.put, List.setIfInBounds_toArray, List.set_cons_succ, List.set_cons_zero]
  refine takeD 3 (some 8) (.agg (posC c)) (by kernel_rfl) (by kernel_rfl) (by kernel_rfl) (by kernel_rfl) (by kernel_rfl) (fun _ _ _ h => h) (yieldsIf_load_mid (by kernel_rfl) 31 (.tmp 2) (by kernel_rfl) g 0 (by kernel_rfl) (posL c) _ (fun _ h => A.posR h.1) hp31 rfl (A.posL_info c)) hSd ?_
  simp only [Act.put, List.setIfInBounds_toArray, List.set_cons_succ, List.set_cons_zero]
  refine takeD 4 (some 9) (.int .i64 s) (by kernel_rfl) (by kernel_rfl) (by kernel_rfl) (by kernel_rfl) (by kernel_rfl) (fun _ _ _ h => h) (yi_pure (v0 := .int .i64 s) (by kernel_rfl) (fun _ => by kernel_rfl) (rfl)) hSd ?_
  simp only [Act.put, List.setIfInBounds_toArray, List.set_cons_succ, List.set_cons_zero]
  refine takeCall 2 (some 7) 16 (#[.agg (posC c), .int .i64 s]) (.int .u64 u) (fun w9 => Below V.heap.size V w9) (by kernel_rfl) (by kernel_rfl) (by kernel_rfl) (by kernel_rfl) (by kernel_rfl) (HB1.out _) (fun w1 hR1 => ?_)
  simp only [Act.put, List.setIfInBounds_toArray, List.set_cons_succ, List.set_cons_zero]
  have hS1 : PosAt w1 g c ∧ Below g w w1 := ⟨hSd.1.below hR1, A.next_g hSd.2 hSd.1 hR1⟩
  refine ⟨hS1, ?_⟩
  refine takeCall 5 (some 10) 17 (#[.agg (posC c), .int .i64 s]) (.int .u64 u) (fun w9 => Below w1.heap.size w1 w9) (by kernel_rfl) (by kernel_rfl) (by kernel_rfl) (by kernel_rfl) (by kernel_rfl) (HB2.out _) (fun w2 hR2 => ?_)
  simp only [Act.put, List.setIfInBounds_toArray, List.set_cons_succ, List.set_cons_zero]
  have hS3 : PosAt w2 g c ∧ Below g w w2 := ⟨hS1.1.below hR2, A.next_g hS1.2 hS1.1 hR2⟩
  refine ⟨hS3, ?_⟩
  refine takeD 6 (some 11) (.bool true) (by kernel_rfl) (by kernel_rfl) (by kernel_rfl) (by kernel_rfl) (by kernel_rfl) (fun _ _ _ h => h) (yi_pure (v0 := .bool (u == u)) (by kernel_rfl) (fun _ => by kernel_rfl) (by simp)) hS3 ?_
  simp only [Act.put, List.setIfInBounds_toArray, List.set_cons_succ, List.set_cons_zero]
  refine takeD 7 (some 12) (.bool true) (by kernel_rfl) (by kernel_rfl) (by kernel_rfl) (by kernel_rfl) (by kernel_rfl) (fun _ _ _ h => h) (yi_pure (v0 := .bool true) (by kernel_rfl) (fun _ => by kernel_rfl) (rfl)) hS3 ?_
  simp only [Act.put, List.setIfInBounds_toArray, List.set_cons_succ, List.set_cons_zero]
  refine takeCall 8 (some 13) 15 (#[]) (.bool true) (fun w9 => Below w2.heap.size w2 w9) (by kernel_rfl) (by kernel_rfl) (by kernel_rfl) (by kernel_rfl) (by kernel_rfl) (awake16_any w2 (HT.out _ hS3.2)) (fun w4 hR4 => ?_)
  simp only [Act.put, List.setIfInBounds_toArray, List.set_cons_succ, List.set_cons_zero]
  have hS4 : PosAt w4 g c ∧ Below g w w4 := ⟨hS3.1.below hR4, A.next_g hS3.2 hS3.1 hR4⟩
  refine ⟨hS4, ?_⟩
  clear hR4 hS3
  refine takeD 9 (some 14) (.bool true) (by kernel_rfl) (by kernel_rfl) (by kernel_rfl) (by kernel_rfl) (by kernel_rfl) (fun _ _ _ h => h) (yi_pure (v0 := .bool true) (by kernel_rfl) (fun _ => by kernel_rfl) (rfl)) hS4 ?_
  simp only [Act.put, List.setIfInBounds_toArray, List.set_cons_succ, List.set_cons_zero]
  refine takeD 10 (some 4) (.bool true) (by kernel_rfl) (by kernel_rfl) (by kernel_rfl) (by kernel_rfl) (by kernel_rfl) (fun _ _ _ h => h) (yi_pure (v0 := .bool true) (by kernel_rfl) (fun _ => by kernel_rfl) (rfl)) hS4 ?_
  simp only [Act.put, List.setIfInBounds_toArray, List.set_cons_succ, List.set_cons_zero]
  refine wpAnyH_done (by kernel_rfl) ?_ _
  have HF := Lib.hid (hg ▸ hS4.2 : Below w.heap.size w w4)
  clear hS4
  go_wp2
  go_ret
  exact ⟨rfl, HF.out⟩
end Go.Proofs.YtgkndhpolcnjbaaGreatDoor
