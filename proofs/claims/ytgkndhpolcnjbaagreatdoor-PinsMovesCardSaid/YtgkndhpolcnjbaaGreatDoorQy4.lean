/- Several texts in one: Law18, Law18a, Ref18c. -/

import Derived.Test.YtgkndhpolcnjbaaGreatDoorQy3
namespace Go.Proofs.YtgkndhpolcnjbaaGreatDoor
open Go.RowKit Go.Sort
theorem none18_cells : Value.agg ((Tryz.zeroCells31.setIfInBounds 83 (.int .i8 (-1))).setIfInBounds 87 (.int .i64 1)) = .agg (posC noneC) := by kernel_rfl
def shP : Nat → Int := upd (upd (upd (upd (upd (upd noneC 5 6) 13 2) 12 3) 61 12) 26 11) 33 13
def shQ : Nat → Int := upd shP 13 0
theorem shP_bd : BdOk shP := fun s hs => (show ∀ s : Fin 64, 0 ≤ shP (1 + s.val) ∧ shP (1 + s.val) ≤ 255 by decide +kernel) ⟨s, hs⟩
theorem shQ_bd : BdOk shQ := fun s hs => (show ∀ s : Fin 64, 0 ≤ shQ (1 + s.val) ∧ shQ (1 + s.val) ≤ 255 by decide +kernel) ⟨s, hs⟩
set_option maxRecDepth 100000 in
set_option maxHeartbeats 1000000 in
theorem shown18_any (w : World) :
    Calls Tryz.prog 75 #[] w fun e w' => e = .returned (.agg (posC shP)) ∧ Below w.heap.size w w' := by
  have hb0 : Below w.heap.size w (w.alloc (.cells Tryz.zeroCells31 31)) := (Below.refl _ _).alloc (Nat.le_refl _) _
  have h0 : ∀ o, ((w.alloc (.cells Tryz.zeroCells31 31)).alloc o).heap[w.heap.size]? = some (.cells Tryz.zeroCells31 31 (0, 0)) := fun o => (Below.heap_alloc _ _ _ (by simp)).trans (heap_alloc_new _ _)
  go_enter Tryz.func75, Tryz.ntmps75
  go_wp2_with (first
    | ((with_reducible refine wp_store_box rfl _ _ rfl ?_); refine ⟨w.heap.size + 1, noneC, rfl, none18_cells, ⟨_, (by have := heap_alloc_new (w.alloc (.cells Tryz.zeroCells31 31)) (.cells Tryz.zeroCells31 31); simpa using this), rfl⟩, ?_⟩; intro V hV hp; have hk : V.heap[w.heap.size]? = some (.cells Tryz.zeroCells31 31 (0, 0)) := (hV.block w.heap.size (by omega)).trans (h0 _); have hb2 := hV.below (hb0.alloc (by simp) _) (by omega); clear hV hb0 h0)
    | ((with_reducible refine wp_store_cell rfl _ _ _ rfl ?_); refine ⟨_, _, _, _, _, rfl, rfl, hp, (by omega), rfl, Tryz.size_u8, ?_⟩; intro V hV hp2; have hk2 : V.heap[w.heap.size]? = some (.cells Tryz.zeroCells31 31 (0, 0)) := (hV.block w.heap.size (by omega)).trans hk; replace hb2 := hV.below hb2 (by omega); clear hV hp hk; have hp := hp2; have hk := hk2; clear hp2 hk2)
    | ((with_reducible refine wp_load_box rfl _ rfl ?_); refine ⟨_, _, rfl, hp, ?_⟩)
    | ((with_reducible refine wp_store_box rfl _ _ rfl ?_); refine ⟨_, shP, rfl, rfl, ⟨_, hk, rfl⟩, ?_⟩; intro V hV hr; replace hb2 := hV.below hb2 (by omega)))
  refine bodyPost_ret (v := .agg (posC shP)) ?_ rfl ⟨rfl, hb2⟩
  exact results_cell_row Tryz.results75 _ _ w.heap.size 31 (posC shP) (0, 0) _ rfl hr.heap Tryz.underlying31 rfl Tryz.infoPos
theorem file18_any (w : World) : Calls Tryz.prog 78 #[] w fun e w' => e = .returned (.int .u64 1157442765409226752) ∧ w = w' := by
  go_enter Tryz.func78, Tryz.ntmps78
  go_wp2
  go_ret
  exact ⟨rfl, rfl⟩
theorem sh1 : U (N.men (N.pins shP 0)) = 6144 := by decide +kernel
theorem sh2 : N.pinner shP 12 = 60 := by decide +kernel
theorem sh3 : N.pinner shP 11 = 25 := by decide +kernel
theorem sh4 : U (N.line shP 12) = 1157442765409226752 := by decide +kernel
theorem sh5 : U (N.line shP 11) = 33818624 := by decide +kernel
theorem sh6 : U (N.blocks shP 0) = 18446744073709551615 := by decide +kernel
theorem sh7 : U (N.blocks shQ 0) = 1157442765409226752 := by decide +kernel
theorem pof_val (c : Nat → Int) (color n : Int) (w : World) (hc : BdOk c) (hT : Tb w) (h : U (N.men (N.pins c color)) = n) :
    Calls Tryz.prog 76 #[.agg (posC c), .int .u8 color] w fun e w' => e = .returned (.int .u64 n) ∧ Below w.heap.size w w' := by
  rw [← h]; exact pinsof_any c color w hc hT
theorem pinner_val (c : Nat → Int) (s n : Int) (w : World) (hc : BdOk c) (hT : Tb w) (h : N.pinner c s = n) :
    Calls Tryz.prog 77 #[.agg (posC c), .int .i64 s] w fun e w' => e = .returned (.int .i64 n) ∧ Below w.heap.size w w' := by
  rw [← h]; exact pinner_any c s w hc hT
theorem pline_val (c : Nat → Int) (s n : Int) (w : World) (hc : BdOk c) (hT : Tb w) (h : U (N.line c s) = n) :
    Calls Tryz.prog 27 #[.agg (posC c), .int .i64 s] w fun e w' => e = .returned (.int .u64 n) ∧ Below w.heap.size w w' := by
  rw [← h]; exact pline_any c s w hc hT
theorem pblocks_val (c : Nat → Int) (color n : Int) (w : World) (hc : BdOk c) (hT : Tb w) (h : U (N.blocks c color) = n) :
    Calls Tryz.prog 26 #[.agg (posC c), .int .u8 color] w fun e w' => e = .returned (.int .u64 n) ∧ Below w.heap.size w w' := by
  rw [← h]; exact pblocks_any c color w hc hT
set_option maxRecDepth 100000 in
set_option maxHeartbeats 4000000 in
theorem awake18_any (w : World) (hT : Tb w) :
    Calls Tryz.prog 24 #[] w fun e w' => e = .returned (.bool true) ∧ Below w.heap.size w w' := by
  have HT := Lib.hid (fun W (hb : Below w.heap.size w W) => tb_below hT hb)
  clear hT
  go_enter Tryz.func24, Tryz.ntmps24
  go_wp2_with fail
  refine (shown18_any _).mono ?_
  rintro e w1 ⟨rfl, hb0⟩
  have hz := hb0.size
  go_wp2_with (first
    | ((with_reducible refine wp_store_box rfl _ _ rfl ?_); refine ⟨_, shP, rfl, rfl, ⟨_, heap_alloc_new _ _, rfl⟩, ?_⟩; first
        | (have hp0 := hp; intro V2 hV hq; have hp2 := hV.pos (hp.alloc _) (Nat.ne_of_lt hp.lt); replace hb0 := hV.below (hb0.alloc hb0.size _) hb0.size; have hlt := hp.lt; clear hV hp hp0; have hp := hp2; clear hp2)
        | (intro V hV hp; replace hb0 := hV.below (hb0.alloc hz _) hz; clear hV))
    | ((with_reducible refine wp_load_box rfl _ rfl ?_); refine ⟨_, _, rfl, (by assumption), ?_⟩)
    | ((with_reducible refine wp_store_cell rfl _ _ _ rfl ?_); refine ⟨_, _, _, _, _, rfl, rfl, hq, (by omega), rfl, Tryz.size_u8, ?_⟩; intro V3 hV hq2; have hp2 := hV.pos hp (Nat.ne_of_lt hlt); replace hb0 := hV.below hb0 (Nat.le_of_lt (Nat.lt_of_le_of_lt hz hlt)); clear hV hp hq; have hp := hp2; have hq := hq2; clear hp2 hq2)
    | fail)
  replace hq : PosAt _ _ shQ := hq
  refine (pof_val shP 0 6144 _ shP_bd (HT.out _ hb0) sh1).mono ?_
  rintro e u1 ⟨rfl, hb⟩
  replace hp := hp.below hb
  replace hq := hq.below hb
  replace hb0 := below_next hb0 hb
  clear hb
  go_wp2_with (first | ((with_reducible refine wp_load_box_g rfl _ rfl ?_); refine ⟨_, _, rfl, (by assumption), ?_⟩) | ((with_reducible refine wp_load_box rfl _ rfl ?_); refine ⟨_, _, rfl, (by assumption), ?_⟩) | fail)
  refine (pinner_val shP 12 60 _ shP_bd (HT.out _ hb0) sh2).mono ?_
  rintro e u1 ⟨rfl, hb⟩
  replace hp := hp.below hb
  replace hq := hq.below hb
  replace hb0 := below_next hb0 hb
  clear hb
  go_wp2_with (first | ((with_reducible refine wp_load_box_g rfl _ rfl ?_); refine ⟨_, _, rfl, (by assumption), ?_⟩) | ((with_reducible refine wp_load_box rfl _ rfl ?_); refine ⟨_, _, rfl, (by assumption), ?_⟩) | fail)
  refine (pinner_val shP 11 25 _ shP_bd (HT.out _ hb0) sh3).mono ?_
  rintro e u1 ⟨rfl, hb⟩
  replace hp := hp.below hb
  replace hq := hq.below hb
  replace hb0 := below_next hb0 hb
  clear hb
  go_wp2_with (first | ((with_reducible refine wp_load_box_g rfl _ rfl ?_); refine ⟨_, _, rfl, (by assumption), ?_⟩) | ((with_reducible refine wp_load_box rfl _ rfl ?_); refine ⟨_, _, rfl, (by assumption), ?_⟩) | fail)
  refine (pline_val shP 12 1157442765409226752 _ shP_bd (HT.out _ hb0) sh4).mono ?_
  rintro e u1 ⟨rfl, hb⟩
  replace hp := hp.below hb
  replace hq := hq.below hb
  replace hb0 := below_next hb0 hb
  clear hb
  go_wp2_with (first | ((with_reducible refine wp_load_box_g rfl _ rfl ?_); refine ⟨_, _, rfl, (by assumption), ?_⟩) | ((with_reducible refine wp_load_box rfl _ rfl ?_); refine ⟨_, _, rfl, (by assumption), ?_⟩) | fail)
  refine (file18_any _).mono ?_
  rintro e u1 ⟨rfl, rfl⟩
  go_wp2_with (first | ((with_reducible refine wp_load_box_g rfl _ rfl ?_); refine ⟨_, _, rfl, (by assumption), ?_⟩) | ((with_reducible refine wp_load_box rfl _ rfl ?_); refine ⟨_, _, rfl, (by assumption), ?_⟩) | fail)
  refine (pline_val shP 11 33818624 _ shP_bd (HT.out _ hb0) sh5).mono ?_
  rintro e u1 ⟨rfl, hb⟩
  replace hp := hp.below hb
  replace hq := hq.below hb
  replace hb0 := below_next hb0 hb
  clear hb
  go_wp2_with (first | ((with_reducible refine wp_load_box_g rfl _ rfl ?_); refine ⟨_, _, rfl, (by assumption), ?_⟩) | ((with_reducible refine wp_load_box rfl _ rfl ?_); refine ⟨_, _, rfl, (by assumption), ?_⟩) | fail)
  refine (pblocks_val shP 0 18446744073709551615 _ shP_bd (HT.out _ hb0) sh6).mono ?_
  rintro e u1 ⟨rfl, hb⟩
  replace hp := hp.below hb
  replace hq := hq.below hb
  replace hb0 := below_next hb0 hb
  clear hb
  go_wp2_with (first | ((with_reducible refine wp_load_box_g rfl _ rfl ?_); refine ⟨_, _, rfl, (by assumption), ?_⟩) | ((with_reducible refine wp_load_box rfl _ rfl ?_); refine ⟨_, _, rfl, (by assumption), ?_⟩) | fail)
  refine (pblocks_val shQ 0 1157442765409226752 _ shQ_bd (HT.out _ hb0) sh7).mono ?_
  rintro e u1 ⟨rfl, hb⟩
  replace hp := hp.below hb
  replace hq := hq.below hb
  replace hb0 := below_next hb0 hb
  clear hb
  go_wp2_with (first | ((with_reducible refine wp_load_box_g rfl _ rfl ?_); refine ⟨_, _, rfl, (by assumption), ?_⟩) | ((with_reducible refine wp_load_box rfl _ rfl ?_); refine ⟨_, _, rfl, (by assumption), ?_⟩) | fail)
  refine (file18_any _).mono ?_
  rintro e u1 ⟨rfl, rfl⟩
  go_wp2
  go_ret
  exact ⟨rfl, hb0⟩
end Go.Proofs.YtgkndhpolcnjbaaGreatDoor
namespace Go.Proofs.YtgkndhpolcnjbaaGreatDoor
open Go.RowKit Go.Sort
namespace N
theorem dall_len (c : Nat → Int) (color : Int) : (dall c color).length ≤ 9 := by
  unfold dall
  split
  · exact allTo_len _ _ _ _
  · simp
end N
end Go.Proofs.YtgkndhpolcnjbaaGreatDoor
namespace Go.Proofs.YtgkndhpolcnjbaaGreatDoor
open Go.RowKit Go.Sort
end Go.Proofs.YtgkndhpolcnjbaaGreatDoor
