/- Several texts in one: AfWk. -/

import Derived.Test.YtgkndhpolcnjbaaGreatDoorZa3
import Derived.Test.YtgkndhpolcnjbaaGreatDoorZb3
namespace Go.Proofs.YtgkndhpolcnjbaaGreatDoor
open Go.RowKit Go.Sort
theorem A.eq2_m1 (w : World) : (Op.equalIn 10000 27 (.agg #[.int .i8 (-1), .int .i8 (-1)]) (.agg #[.int .i8 (-1), .int .i8 (-1)])).run Tryz.prog w = .ok true w := by kernel_rfl
theorem start16_any (w : World) : Calls Tryz.prog 55 #[.int .u8 0] w fun e w' => e = .returned (.tuple #[.agg (posC A.wp0), .bool true]) ∧ Below w.heap.size w w' := start_any 0 w (by decide)
set_option maxRecDepth 100000 in
set_option maxHeartbeats 8000000 in
theorem awake16_any (w : World) (hT : Tb w) :
    Calls Tryz.prog 15 #[] w fun e w' => e = .returned (.bool true) ∧ Below w.heap.size w w' := by
  have HT : Hid (∀ W, Below w.heap.size w W → Tb W) := Lib.hid (fun W hb => tb_below hT hb)
  have HM0 : Hid (∀ W, Tb W → Calls Tryz.prog 19 #[.agg (posC A.wp0), .agg #[.int .i8 12, .int .i8 28, .int .u8 0, .int .u8 0, .bool false]] W fun e w' => e = .returned (.tuple #[.agg (posC A.wp2), .bool true]) ∧ Below W.heap.size W w') := Lib.hid (fun W h => amove_any A.wp0 A.wp1 W A.wp_ok h A.wp_in)
  have HM1 : Hid (∀ W, Tb W → Calls Tryz.prog 19 #[.agg (posC A.wr0), .agg #[.int .i8 51, .int .i8 35, .int .u8 0, .int .u8 0, .bool false]] W fun e w' => e = .returned (.tuple #[.agg (posC A.wr2), .bool true]) ∧ Below W.heap.size W w') := Lib.hid (fun W h => amove_any A.wr0 A.wr1 W A.wr_ok h A.wr_in)
  have HM2 : Hid (∀ W, Tb W → Calls Tryz.prog 19 #[.agg (posC A.wt0), .agg #[.int .i8 4, .int .i8 7, .int .u8 0, .int .u8 0, .bool true]] W fun e w' => e = .returned (.tuple #[.agg (posC A.wt2), .bool true]) ∧ Below W.heap.size W w') := Lib.hid (fun W h => amove_any A.wt0 A.wt1 W A.wt_ok h A.wt_in)
  have HM3 : Hid (∀ W, Tb W → Calls Tryz.prog 19 #[.agg (posC A.wv0), .agg #[.int .i8 3, .int .i8 51, .int .u8 0, .int .u8 0, .bool false]] W fun e w' => e = .returned (.tuple #[.agg (posC A.wv2), .bool true]) ∧ Below W.heap.size W w') := Lib.hid (fun W h => amove_any A.wv0 A.wv1 W A.wv_ok h A.wv_in)
  clear hT
  go_enter Tryz.func15, Tryz.ntmps15
  go_upto_region 3 with (first
    | (go_at_call 55; refine (start16_any _).mono ?_; rintro e w1 ⟨rfl, hb1⟩)
    | ((with_reducible refine wp_store_box rfl _ _ rfl ?_); refine ⟨w1.heap.size, A.wp0, rfl, (by first | rfl | kernel_rfl), ⟨_, heap_alloc_new _ _, (by kernel_rfl)⟩, ?_⟩; intro W2 hP2 hq2; have HB2 := Lib.hid (hP2.below (hb1.alloc hb1.size _) hb1.size); clear hP2 hb1)
    | ((with_reducible refine wp_load_box rfl _ rfl ?_); refine ⟨w1.heap.size, A.wp0, rfl, hq2, ?_⟩)
    | (go_at_call 19; (with_reducible refine (HM0.out _ (HT.out _ HB2.out)).mono ?_); rintro e w3 ⟨rfl, hb3⟩; have HB3 := Lib.hid (below_next HB2.out hb3); clear hq2; clear hb3)
    | ((with_reducible refine wp_store_box rfl _ _ rfl ?_); refine ⟨w3.heap.size, A.wp2, rfl, (by first | rfl | kernel_rfl), ⟨_, heap_alloc_new _ _, (by kernel_rfl)⟩, ?_⟩; intro W4 hP4 hq4; have HB4 := Lib.hid (hP4.below (HB3.out.alloc HB3.out.size _) HB3.out.size); have HQ4 := Lib.hid hq4; clear hq4; clear hP4)
    | fail)
  go_upto_region 7 with (first
    | ((with_reducible refine wp_store_box rfl _ _ rfl ?_); refine ⟨W4.heap.size, upd noneC 78 1, rfl, (by first | rfl | kernel_rfl), ⟨_, heap_alloc_new _ _, (by kernel_rfl)⟩, ?_⟩; intro W5 hP5 hq5; have HX5 := Lib.hid (hP5.below ((Below.refl W4.heap.size W4).alloc (Nat.le_refl _) _) (Nat.le_refl _)); clear hP5)
    | ((with_reducible refine wp_store_cell rfl _ _ _ rfl ?_); refine ⟨W4.heap.size, 37, _, _, _, rfl, rfl, hq5, (by decide), rfl, Tryz.size_u8, ?_⟩; intro W6 hP6 hq6; have HX6 := Lib.hid (hP6.below HX5.out (Nat.le_refl _)); clear hP6 hq5)
    | ((with_reducible refine wp_store_cell rfl _ _ _ rfl ?_); refine ⟨W4.heap.size, 52, _, _, _, rfl, rfl, hq6, (by decide), rfl, Tryz.size_u8, ?_⟩; intro W7 hP7 hq7; have HX7 := Lib.hid (hP7.below HX6.out (Nat.le_refl _)); clear hP7 hq6)
    | ((with_reducible refine wp_load_box rfl _ rfl ?_); refine ⟨W4.heap.size, A.wr0, rfl, hq7, ?_⟩)
    | (go_at_call 19; (with_reducible refine (HM1.out _ (HT.out _ (below_next HB4.out HX7.out))).mono ?_); rintro e w8 ⟨rfl, hb8⟩; have HX8 := Lib.hid (below_next HX7.out hb8); clear hq7; clear hb8)
    | ((with_reducible refine wp_store_box rfl _ _ rfl ?_); refine ⟨w8.heap.size, A.wr2, rfl, (by first | rfl | kernel_rfl), ⟨_, heap_alloc_new _ _, (by kernel_rfl)⟩, ?_⟩; intro W9 hP9 hq9; have HX9 := Lib.hid (hP9.below (HX8.out.alloc HX8.out.size _) HX8.out.size); have HB9 := Lib.hid (below_next HB4.out HX9.out); have HQ4_9 := Lib.hid (HQ4.out.below HX9.out); have HQ9 := Lib.hid hq9; clear hq9; clear hP9)
    | fail)
  go_upto_region 11 with (first
    | ((with_reducible refine wp_store_box rfl _ _ rfl ?_); refine ⟨W9.heap.size, upd (upd (upd (upd noneC 79 7) 80 (-1)) 81 (-1)) 82 (-1), rfl, (by first | rfl | kernel_rfl), ⟨_, heap_alloc_new _ _, (by kernel_rfl)⟩, ?_⟩; intro W10 hP10 hq10; have HX10 := Lib.hid (hP10.below ((Below.refl W9.heap.size W9).alloc (Nat.le_refl _) _) (Nat.le_refl _)); clear hP10)
    | ((with_reducible refine wp_store_cell rfl _ _ _ rfl ?_); refine ⟨W9.heap.size, 5, _, _, _, rfl, rfl, hq10, (by decide), rfl, Tryz.size_u8, ?_⟩; intro W11 hP11 hq11; have HX11 := Lib.hid (hP11.below HX10.out (Nat.le_refl _)); clear hP11 hq10)
    | ((with_reducible refine wp_store_cell rfl _ _ _ rfl ?_); refine ⟨W9.heap.size, 8, _, _, _, rfl, rfl, hq11, (by decide), rfl, Tryz.size_u8, ?_⟩; intro W12 hP12 hq12; have HX12 := Lib.hid (hP12.below HX11.out (Nat.le_refl _)); clear hP12 hq11)
    | ((with_reducible refine wp_load_box rfl _ rfl ?_); refine ⟨W9.heap.size, A.wt0, rfl, hq12, ?_⟩)
    | (go_at_call 19; (with_reducible refine (HM2.out _ (HT.out _ (below_next HB9.out HX12.out))).mono ?_); rintro e w13 ⟨rfl, hb13⟩; have HX13 := Lib.hid (below_next HX12.out hb13); clear hq12; clear hb13)
    | ((with_reducible refine wp_store_box rfl _ _ rfl ?_); refine ⟨w13.heap.size, A.wt2, rfl, (by first | rfl | kernel_rfl), ⟨_, heap_alloc_new _ _, (by kernel_rfl)⟩, ?_⟩; intro W14 hP14 hq14; have HX14 := Lib.hid (hP14.below (HX13.out.alloc HX13.out.size _) HX13.out.size); have HB14 := Lib.hid (below_next HB9.out HX14.out); have HQ4_14 := Lib.hid (HQ4_9.out.below HX14.out); have HQ9_14 := Lib.hid (HQ9.out.below HX14.out); have HQ14 := Lib.hid hq14; clear hq14; clear hP14)
    | fail)
  go_upto_region 18 with (first
    | ((with_reducible refine wp_store_box rfl _ _ rfl ?_); refine ⟨W14.heap.size, upd noneC 0 3, rfl, (by first | rfl | kernel_rfl), ⟨_, heap_alloc_new _ _, (by kernel_rfl)⟩, ?_⟩; intro W15 hP15 hq15; have HX15 := Lib.hid (hP15.below ((Below.refl W14.heap.size W14).alloc (Nat.le_refl _) _) (Nat.le_refl _)); clear hP15)
    | ((with_reducible refine wp_store_cell rfl _ _ _ rfl ?_); refine ⟨W14.heap.size, 4, _, _, _, rfl, rfl, hq15, (by decide), rfl, Tryz.size_u8, ?_⟩; intro W16 hP16 hq16; have HX16 := Lib.hid (hP16.below HX15.out (Nat.le_refl _)); clear hP16 hq15)
    | ((with_reducible refine wp_store_cell rfl _ _ _ rfl ?_); refine ⟨W14.heap.size, 52, _, _, _, rfl, rfl, hq16, (by decide), rfl, Tryz.size_u8, ?_⟩; intro W17 hP17 hq17; have HX17 := Lib.hid (hP17.below HX16.out (Nat.le_refl _)); clear hP17 hq16)
    | ((with_reducible refine wp_store_cell rfl _ _ _ rfl ?_); refine ⟨W14.heap.size, 61, _, _, _, rfl, rfl, hq17, (by decide), rfl, Tryz.size_u8, ?_⟩; intro W18 hP18 hq18; have HX18 := Lib.hid (hP18.below HX17.out (Nat.le_refl _)); clear hP18 hq17)
    | ((with_reducible refine wp_store_cell rfl _ _ _ rfl ?_); refine ⟨W14.heap.size, 59, _, _, _, rfl, rfl, hq18, (by decide), rfl, Tryz.size_u8, ?_⟩; intro W19 hP19 hq19; have HX19 := Lib.hid (hP19.below HX18.out (Nat.le_refl _)); clear hP19 hq18)
    | ((with_reducible refine wp_store_cell rfl _ _ _ rfl ?_); refine ⟨W14.heap.size, 51, _, _, _, rfl, rfl, hq19, (by decide), rfl, Tryz.size_u8, ?_⟩; intro W20 hP20 hq20; have HX20 := Lib.hid (hP20.below HX19.out (Nat.le_refl _)); clear hP20 hq19)
    | ((with_reducible refine wp_load_box rfl _ rfl ?_); refine ⟨W14.heap.size, A.wv0, rfl, hq20, ?_⟩)
    | (go_at_call 19; (with_reducible refine (HM3.out _ (HT.out _ (below_next HB14.out HX20.out))).mono ?_); rintro e w21 ⟨rfl, hb21⟩; have HX21 := Lib.hid (below_next HX20.out hb21); clear hq20; clear hb21)
    | ((with_reducible refine wp_store_box rfl _ _ rfl ?_); refine ⟨w21.heap.size, A.wv2, rfl, (by first | rfl | kernel_rfl), ⟨_, heap_alloc_new _ _, (by kernel_rfl)⟩, ?_⟩; intro W22 hP22 hq22; have HX22 := Lib.hid (hP22.below (HX21.out.alloc HX21.out.size _) HX21.out.size); have HB22 := Lib.hid (below_next HB14.out HX22.out); have HQ4_22 := Lib.hid (HQ4_14.out.below HX22.out); have HQ9_22 := Lib.hid (HQ9_14.out.below HX22.out); have HQ14_22 := Lib.hid (HQ14.out.below HX22.out); have HQ22 := Lib.hid hq22; clear hq22; clear hP22)
    | fail)
  have f0 : W22.cell? ⟨w3.heap.size, 29, none⟩ = some (.int .u8 (1)) := by
    have := HQ4_22.out.cell (i := 29) (by decide)
    rwa [show pk 29 = .u8 from rfl, A.wp_is.1] at this
  have f1 : W22.cell? ⟨w3.heap.size, 13, none⟩ = some (.int .u8 (0)) := by
    have := HQ4_22.out.cell (i := 13) (by decide)
    rwa [show pk 13 = .u8 from rfl, A.wp_is.2.1] at this
  have f2 : W22.cell? ⟨w3.heap.size, 78, none⟩ = some (.int .u8 (1)) := by
    have := HQ4_22.out.cell (i := 78) (by decide)
    rwa [show pk 78 = .u8 from rfl, A.wp_is.2.2.1] at this
  have f3 : W22.cell? ⟨w3.heap.size, 83, none⟩ = some (.int .i8 (-1)) := by
    have := HQ4_22.out.cell (i := 83) (by decide)
    rwa [show pk 83 = .i8 from rfl, A.wp_is.2.2.2.1] at this
  have f4 : W22.cell? ⟨w3.heap.size, 86, none⟩ = some (.int .i64 (0)) := by
    have := HQ4_22.out.cell (i := 86) (by decide)
    rwa [show pk 86 = .i64 from rfl, A.wp_is.2.2.2.2.1] at this
  have f5 : W22.cell? ⟨w3.heap.size, 87, none⟩ = some (.int .i64 (1)) := by
    have := HQ4_22.out.cell (i := 87) (by decide)
    rwa [show pk 87 = .i64 from rfl, A.wp_is.2.2.2.2.2] at this
  have f6 : W22.cell? ⟨w8.heap.size, 83, none⟩ = some (.int .i8 (43)) := by
    have := HQ9_22.out.cell (i := 83) (by decide)
    rwa [show pk 83 = .i8 from rfl, A.wr_is.1] at this
  have f7 : W22.cell? ⟨w8.heap.size, 87, none⟩ = some (.int .i64 (2)) := by
    have := HQ9_22.out.cell (i := 87) (by decide)
    rwa [show pk 87 = .i64 from rfl, A.wr_is.2] at this
  go_upto_region 20 with fail
  clear f0 f1 f2 f3 f4 f5 f6 f7
  have f8 : W22.cell? ⟨w13.heap.size, 7, none⟩ = some (.int .u8 (6)) := by
    have := HQ14_22.out.cell (i := 7) (by decide)
    rwa [show pk 7 = .u8 from rfl, A.wt_is.1] at this
  have f9 : W22.cell? ⟨w13.heap.size, 6, none⟩ = some (.int .u8 (4)) := by
    have := HQ14_22.out.cell (i := 6) (by decide)
    rwa [show pk 6 = .u8 from rfl, A.wt_is.2.1] at this
  have f10 : W22.cell? ⟨w13.heap.size, 5, none⟩ = some (.int .u8 (0)) := by
    have := HQ14_22.out.cell (i := 5) (by decide)
    rwa [show pk 5 = .u8 from rfl, A.wt_is.2.2.1] at this
  have f11 : W22.cell? ⟨w13.heap.size, 8, none⟩ = some (.int .u8 (0)) := by
    have := HQ14_22.out.cell (i := 8) (by decide)
    rwa [show pk 8 = .u8 from rfl, A.wt_is.2.2.2.1] at this
  have f12 : W22.cell? ⟨w13.heap.size, 79, none⟩ = some (.int .i8 (-1)) := by
    have := HQ14_22.out.cell (i := 79) (by decide)
    rwa [show pk 79 = .i8 from rfl, A.wt_is.2.2.2.2.1] at this
  have f13 : W22.cell? ⟨w13.heap.size, 80, none⟩ = some (.int .i8 (-1)) := by
    have := HQ14_22.out.cell (i := 80) (by decide)
    rwa [show pk 80 = .i8 from rfl, A.wt_is.2.2.2.2.2] at this
  have f14 : W22.cell? ⟨w21.heap.size, 52, none⟩ = some (.int .u8 (0)) := by
    have := HQ22.out.cell (i := 52) (by decide)
    rwa [show pk 52 = .u8 from rfl, A.wv_is.1] at this
  have f15 : W22.cell? ⟨w21.heap.size, 4, none⟩ = some (.int .u8 (0)) := by
    have := HQ22.out.cell (i := 4) (by decide)
    rwa [show pk 4 = .u8 from rfl, A.wv_is.2.1] at this
  have f16 : W22.cell? ⟨w21.heap.size, 61, none⟩ = some (.int .u8 (0)) := by
    have := HQ22.out.cell (i := 61) (by decide)
    rwa [show pk 61 = .u8 from rfl, A.wv_is.2.2.1] at this
  have f17 : W22.cell? ⟨w21.heap.size, 59, none⟩ = some (.int .u8 (0)) := by
    have := HQ22.out.cell (i := 59) (by decide)
    rwa [show pk 59 = .u8 from rfl, A.wv_is.2.2.2.1] at this
  have f18 : W22.cell? ⟨w21.heap.size, 51, none⟩ = some (.int .u8 (9)) := by
    have := HQ22.out.cell (i := 51) (by decide)
    rwa [show pk 51 = .u8 from rfl, A.wv_is.2.2.2.2] at this
  have heq := A.eq2_m1
  go_wp2
  go_ret
  exact ⟨rfl, HB22.out⟩
end Go.Proofs.YtgkndhpolcnjbaaGreatDoor
