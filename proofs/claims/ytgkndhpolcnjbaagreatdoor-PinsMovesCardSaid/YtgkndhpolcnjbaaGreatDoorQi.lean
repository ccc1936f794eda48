/- Several texts in one: AfC, AfQ, AfO, AfB, AfR. -/

import Derived.Test.YtgkndhpolcnjbaaGreatDoorQh
namespace Go.Proofs.YtgkndhpolcnjbaaGreatDoor
open Go.RowKit Go.Sort
attribute [local go_sem] Oper.semAt_some
theorem Tryz.size_intA : (Tryz.prog.info? 3).map (·.size) = some 1 := by kernel_rfl
namespace A
/-- A step is taken: the mover in b is another, all else is as it was. -/
structure Step (b : Nat) (q' c : Nat → Int) (m : Mv) (t : Int) (w w' : World) : Prop where
  at' : MvAt w' b q' c m t
  grown : w.grownBy w' (some b)
theorem put_grown {b : Nat} {w w1 w' : World} (h : w.grownBy w1 (some b)) (hP : Put b w1 w') : w.grownBy w' (some b) := h.trans hP.grown
theorem below_step {b : Nat} {w w1 w' : World} (h : w.grownBy w1 (some b)) (hb : Below w1.heap.size w1 w') : w.grownBy w' (some b) := h.trans (World.grownBy.but (below_grown hb) _)
theorem pos_i64 {c : Nat → Int} (h : PosOk c) {i : Nat} (hi : i < 88) (hk : pk i = .i64) : -9223372036854775808 ≤ c i ∧ c i ≤ 9223372036854775807 := by
  have := h i hi
  rw [hk] at this
  exact bounds_i64 this
end A
theorem A.upd_same86 (q : Nat → Int) (x y : Int) : upd (upd q 86 x) 86 y = upd q 86 y := by
  funext k
  unfold upd
  split <;> rfl
set_option maxRecDepth 100000 in
set_option maxHeartbeats 1000000 in
theorem mclocks_111 (q c : Nat → Int) (F : Nat) (g p d : Int) (ca : Bool) (t : Int) (b : Nat) (w : World) (hM : A.MvAt w b q c ((F : Int), g, p, d, ca) t) (hF : F < 64) (hc : BdOk c) (hq : PosOk q)
    (k : Int) (hk : A.kind c ((F : Int), g, p, d, ca) = k) (d1 : (k == 1) = true) (d2 : decide (0 ≤ t) = true) (d3 : (q 78 == 1) = true) :
    Calls Tryz.prog 67 #[.pointer (some ⟨b, 0, none⟩)] w fun e w' => e = .returned (.tuple #[]) ∧ A.Step b (A.clocks c q ((F : Int), g, p, d, ca) t) c ((F : Int), g, p, d, ca) t w w' := by
  have b86 := A.pos_i64 hq (i := 86) (by decide) rfl
  have b87 := A.pos_i64 hq (i := 87) (by decide) rfl
  have h86 : w.cell? ⟨b, 86, none⟩ = some (.int .i64 (q 86)) := hM.atq 86 (by decide) .i64 rfl
  have E := Lib.hid (show A.clocks c q ((F : Int), g, p, d, ca) t = (upd (upd q 86 0) 87 (A.more (q 87))) by
    unfold A.clocks
    rw [hk, if_pos (by simpa using d3), if_pos (by simp at d1 d2; omega)])
  have HK : Hid (∀ W, A.MvAt W b (upd q 86 (A.more (q 86))) c ((F : Int), g, p, d, ca) t → Calls Tryz.prog 134 #[.pointer (some ⟨b, 0, none⟩)] W fun e w' => e = .returned (.int .u8 k) ∧ Below W.heap.size W w') := Lib.hid (fun W h => hk ▸ mkind_any _ c F g p d ca t b W h hF hc)
  have B86 := Lib.hid b86
  have B87 := Lib.hid b87
  have G0 := Lib.hid (World.grownBy.refl w (some b))
  clear hc hq hk b86 b87
  go_enter Tryz.func67, Tryz.ntmps67
  go_upto_region 1 with (first
    | (go_at_call 136; refine (more_any _ _ B86.out.1 B86.out.2).mono ?_; rintro e w1 ⟨rfl, rfl⟩)
    | ((with_reducible refine wpl_store_mq rfl _ _ _ rfl ?_); refine ⟨b, 86, q, c, _, t, _, .i64, rfl, rfl, by decide, rfl, Tryz.size_intA, hM, ?_⟩; intro W1 hP1 hM1))
  have G1 := Lib.hid (A.put_grown G0.out hP1)
  clear h86 hM hP1 G0
  go_wp2_with (first
    | (go_at_call 134; refine (HK.out _ hM1).mono ?_; rintro e W2 ⟨rfl, hb2⟩; have hM2 := hM1.below hb2; have G2 := Lib.hid (A.below_step G1.out hb2); have h181 := hM2.att; have h78 : W2.cell? ⟨b, 78, none⟩ = some (.int .u8 (q 78)) := hM2.atq 78 (by decide) .u8 rfl; have h87 : W2.cell? ⟨b, 87, none⟩ = some (.int .i64 (q 87)) := hM2.atq 87 (by decide) .i64 rfl; clear hM1 hb2)
    | ((with_reducible refine wpl_store_mq rfl _ _ _ rfl ?_); refine ⟨b, 86, _, c, _, t, 0, .i64, rfl, rfl, by decide, rfl, Tryz.size_intA, hM2, ?_⟩; intro W3 hP3 hM3; have G3 := Lib.hid (A.put_grown G2.out hP3); have h78 : W3.cell? ⟨b, 78, none⟩ = some (.int .u8 (q 78)) := hM3.atq 78 (by decide) .u8 rfl; have h87 : W3.cell? ⟨b, 87, none⟩ = some (.int .i64 (q 87)) := hM3.atq 87 (by decide) .i64 rfl; clear hM2 hP3 h181)
    | (go_at_call 136; refine (more_any _ _ B87.out.1 B87.out.2).mono ?_; rintro e w1 ⟨rfl, rfl⟩)
    | ((with_reducible refine wpl_store_mq rfl _ _ _ rfl ?_); refine ⟨b, 87, _, c, _, t, _, .i64, rfl, rfl, by decide, rfl, Tryz.size_intA, hM3, ?_⟩; intro W4 hP4 hM4; have G4 := Lib.hid (A.put_grown G3.out hP4)))
  refine bodyPost_end (results_none rfl _ _ _) rfl ?_
  exact ⟨rfl, ⟨by rw [E.out]; rw [← A.upd_same86 q (A.more (q 86)) 0]; exact hM4, G4.out⟩⟩
set_option maxRecDepth 100000 in
set_option maxHeartbeats 1000000 in
theorem mclocks_110 (q c : Nat → Int) (F : Nat) (g p d : Int) (ca : Bool) (t : Int) (b : Nat) (w : World) (hM : A.MvAt w b q c ((F : Int), g, p, d, ca) t) (hF : F < 64) (hc : BdOk c) (hq : PosOk q)
    (k : Int) (hk : A.kind c ((F : Int), g, p, d, ca) = k) (d1 : (k == 1) = true) (d2 : decide (0 ≤ t) = true) (d3 : (q 78 == 1) = false) :
    Calls Tryz.prog 67 #[.pointer (some ⟨b, 0, none⟩)] w fun e w' => e = .returned (.tuple #[]) ∧ A.Step b (A.clocks c q ((F : Int), g, p, d, ca) t) c ((F : Int), g, p, d, ca) t w w' := by
  have b86 := A.pos_i64 hq (i := 86) (by decide) rfl
  have b87 := A.pos_i64 hq (i := 87) (by decide) rfl
  have h86 : w.cell? ⟨b, 86, none⟩ = some (.int .i64 (q 86)) := hM.atq 86 (by decide) .i64 rfl
  have E := Lib.hid (show A.clocks c q ((F : Int), g, p, d, ca) t = (upd q 86 0) by
    unfold A.clocks
    rw [hk, if_neg (by simpa using d3), if_pos (by simp at d1 d2; omega)])
  have HK : Hid (∀ W, A.MvAt W b (upd q 86 (A.more (q 86))) c ((F : Int), g, p, d, ca) t → Calls Tryz.prog 134 #[.pointer (some ⟨b, 0, none⟩)] W fun e w' => e = .returned (.int .u8 k) ∧ Below W.heap.size W w') := Lib.hid (fun W h => hk ▸ mkind_any _ c F g p d ca t b W h hF hc)
  have B86 := Lib.hid b86
  have B87 := Lib.hid b87
  have G0 := Lib.hid (World.grownBy.refl w (some b))
  clear hc hq hk b86 b87
  go_enter Tryz.func67, Tryz.ntmps67
  go_upto_region 1 with (first
    | (go_at_call 136; refine (more_any _ _ B86.out.1 B86.out.2).mono ?_; rintro e w1 ⟨rfl, rfl⟩)
    | ((with_reducible refine wpl_store_mq rfl _ _ _ rfl ?_); refine ⟨b, 86, q, c, _, t, _, .i64, rfl, rfl, by decide, rfl, Tryz.size_intA, hM, ?_⟩; intro W1 hP1 hM1))
  have G1 := Lib.hid (A.put_grown G0.out hP1)
  clear h86 hM hP1 G0
  go_wp2_with (first
    | (go_at_call 134; refine (HK.out _ hM1).mono ?_; rintro e W2 ⟨rfl, hb2⟩; have hM2 := hM1.below hb2; have G2 := Lib.hid (A.below_step G1.out hb2); have h181 := hM2.att; have h78 : W2.cell? ⟨b, 78, none⟩ = some (.int .u8 (q 78)) := hM2.atq 78 (by decide) .u8 rfl; have h87 : W2.cell? ⟨b, 87, none⟩ = some (.int .i64 (q 87)) := hM2.atq 87 (by decide) .i64 rfl; clear hM1 hb2)
    | ((with_reducible refine wpl_store_mq rfl _ _ _ rfl ?_); refine ⟨b, 86, _, c, _, t, 0, .i64, rfl, rfl, by decide, rfl, Tryz.size_intA, hM2, ?_⟩; intro W3 hP3 hM3; have G3 := Lib.hid (A.put_grown G2.out hP3); have h78 : W3.cell? ⟨b, 78, none⟩ = some (.int .u8 (q 78)) := hM3.atq 78 (by decide) .u8 rfl; have h87 : W3.cell? ⟨b, 87, none⟩ = some (.int .i64 (q 87)) := hM3.atq 87 (by decide) .i64 rfl; clear hM2 hP3 h181)
    | (go_at_call 136; refine (more_any _ _ B87.out.1 B87.out.2).mono ?_; rintro e w1 ⟨rfl, rfl⟩)
    | ((with_reducible refine wpl_store_mq rfl _ _ _ rfl ?_); refine ⟨b, 87, _, c, _, t, _, .i64, rfl, rfl, by decide, rfl, Tryz.size_intA, hM3, ?_⟩; intro W4 hP4 hM4; have G4 := Lib.hid (A.put_grown G3.out hP4)))
  refine bodyPost_end (results_none rfl _ _ _) rfl ?_
  exact ⟨rfl, ⟨by rw [E.out]; rw [← A.upd_same86 q (A.more (q 86)) 0]; exact hM3, G3.out⟩⟩
set_option maxRecDepth 100000 in
set_option maxHeartbeats 1000000 in
theorem mclocks_101 (q c : Nat → Int) (F : Nat) (g p d : Int) (ca : Bool) (t : Int) (b : Nat) (w : World) (hM : A.MvAt w b q c ((F : Int), g, p, d, ca) t) (hF : F < 64) (hc : BdOk c) (hq : PosOk q)
    (k : Int) (hk : A.kind c ((F : Int), g, p, d, ca) = k) (d1 : (k == 1) = true) (_d2 : decide (0 ≤ t) = false) (d3 : (q 78 == 1) = true) :
    Calls Tryz.prog 67 #[.pointer (some ⟨b, 0, none⟩)] w fun e w' => e = .returned (.tuple #[]) ∧ A.Step b (A.clocks c q ((F : Int), g, p, d, ca) t) c ((F : Int), g, p, d, ca) t w w' := by
  have b86 := A.pos_i64 hq (i := 86) (by decide) rfl
  have b87 := A.pos_i64 hq (i := 87) (by decide) rfl
  have h86 : w.cell? ⟨b, 86, none⟩ = some (.int .i64 (q 86)) := hM.atq 86 (by decide) .i64 rfl
  have E := Lib.hid (show A.clocks c q ((F : Int), g, p, d, ca) t = (upd (upd q 86 0) 87 (A.more (q 87))) by
    unfold A.clocks
    rw [hk, if_pos (by simpa using d3), if_pos (.inl (by simpa using d1))])
  have HK : Hid (∀ W, A.MvAt W b (upd q 86 (A.more (q 86))) c ((F : Int), g, p, d, ca) t → Calls Tryz.prog 134 #[.pointer (some ⟨b, 0, none⟩)] W fun e w' => e = .returned (.int .u8 k) ∧ Below W.heap.size W w') := Lib.hid (fun W h => hk ▸ mkind_any _ c F g p d ca t b W h hF hc)
  have B86 := Lib.hid b86
  have B87 := Lib.hid b87
  have G0 := Lib.hid (World.grownBy.refl w (some b))
  clear hc hq hk b86 b87
  go_enter Tryz.func67, Tryz.ntmps67
  go_upto_region 1 with (first
    | (go_at_call 136; refine (more_any _ _ B86.out.1 B86.out.2).mono ?_; rintro e w1 ⟨rfl, rfl⟩)
    | ((with_reducible refine wpl_store_mq rfl _ _ _ rfl ?_); refine ⟨b, 86, q, c, _, t, _, .i64, rfl, rfl, by decide, rfl, Tryz.size_intA, hM, ?_⟩; intro W1 hP1 hM1))
  have G1 := Lib.hid (A.put_grown G0.out hP1)
  clear h86 hM hP1 G0
  go_wp2_with (first
    | (go_at_call 134; refine (HK.out _ hM1).mono ?_; rintro e W2 ⟨rfl, hb2⟩; have hM2 := hM1.below hb2; have G2 := Lib.hid (A.below_step G1.out hb2); have h181 := hM2.att; have h78 : W2.cell? ⟨b, 78, none⟩ = some (.int .u8 (q 78)) := hM2.atq 78 (by decide) .u8 rfl; have h87 : W2.cell? ⟨b, 87, none⟩ = some (.int .i64 (q 87)) := hM2.atq 87 (by decide) .i64 rfl; clear hM1 hb2)
    | ((with_reducible refine wpl_store_mq rfl _ _ _ rfl ?_); refine ⟨b, 86, _, c, _, t, 0, .i64, rfl, rfl, by decide, rfl, Tryz.size_intA, hM2, ?_⟩; intro W3 hP3 hM3; have G3 := Lib.hid (A.put_grown G2.out hP3); have h78 : W3.cell? ⟨b, 78, none⟩ = some (.int .u8 (q 78)) := hM3.atq 78 (by decide) .u8 rfl; have h87 : W3.cell? ⟨b, 87, none⟩ = some (.int .i64 (q 87)) := hM3.atq 87 (by decide) .i64 rfl; clear hM2 hP3 h181)
    | (go_at_call 136; refine (more_any _ _ B87.out.1 B87.out.2).mono ?_; rintro e w1 ⟨rfl, rfl⟩)
    | ((with_reducible refine wpl_store_mq rfl _ _ _ rfl ?_); refine ⟨b, 87, _, c, _, t, _, .i64, rfl, rfl, by decide, rfl, Tryz.size_intA, hM3, ?_⟩; intro W4 hP4 hM4; have G4 := Lib.hid (A.put_grown G3.out hP4)))
  refine bodyPost_end (results_none rfl _ _ _) rfl ?_
  exact ⟨rfl, ⟨by rw [E.out]; rw [← A.upd_same86 q (A.more (q 86)) 0]; exact hM4, G4.out⟩⟩
set_option maxRecDepth 100000 in
set_option maxHeartbeats 1000000 in
theorem mclocks_100 (q c : Nat → Int) (F : Nat) (g p d : Int) (ca : Bool) (t : Int) (b : Nat) (w : World) (hM : A.MvAt w b q c ((F : Int), g, p, d, ca) t) (hF : F < 64) (hc : BdOk c) (hq : PosOk q)
    (k : Int) (hk : A.kind c ((F : Int), g, p, d, ca) = k) (d1 : (k == 1) = true) (_d2 : decide (0 ≤ t) = false) (d3 : (q 78 == 1) = false) :
    Calls Tryz.prog 67 #[.pointer (some ⟨b, 0, none⟩)] w fun e w' => e = .returned (.tuple #[]) ∧ A.Step b (A.clocks c q ((F : Int), g, p, d, ca) t) c ((F : Int), g, p, d, ca) t w w' := by
  have b86 := A.pos_i64 hq (i := 86) (by decide) rfl
  have b87 := A.pos_i64 hq (i := 87) (by decide) rfl
  have h86 : w.cell? ⟨b, 86, none⟩ = some (.int .i64 (q 86)) := hM.atq 86 (by decide) .i64 rfl
  have E := Lib.hid (show A.clocks c q ((F : Int), g, p, d, ca) t = (upd q 86 0) by
    unfold A.clocks
    rw [hk, if_neg (by simpa using d3), if_pos (.inl (by simpa using d1))])
  have HK : Hid (∀ W, A.MvAt W b (upd q 86 (A.more (q 86))) c ((F : Int), g, p, d, ca) t → Calls Tryz.prog 134 #[.pointer (some ⟨b, 0, none⟩)] W fun e w' => e = .returned (.int .u8 k) ∧ Below W.heap.size W w') := Lib.hid (fun W h => hk ▸ mkind_any _ c F g p d ca t b W h hF hc)
  have B86 := Lib.hid b86
  have B87 := Lib.hid b87
  have G0 := Lib.hid (World.grownBy.refl w (some b))
  clear hc hq hk b86 b87
  go_enter Tryz.func67, Tryz.ntmps67
  go_upto_region 1 with (first
    | (go_at_call 136; refine (more_any _ _ B86.out.1 B86.out.2).mono ?_; rintro e w1 ⟨rfl, rfl⟩)
    | ((with_reducible refine wpl_store_mq rfl _ _ _ rfl ?_); refine ⟨b, 86, q, c, _, t, _, .i64, rfl, rfl, by decide, rfl, Tryz.size_intA, hM, ?_⟩; intro W1 hP1 hM1))
  have G1 := Lib.hid (A.put_grown G0.out hP1)
  clear h86 hM hP1 G0
  go_wp2_with (first
    | (go_at_call 134; refine (HK.out _ hM1).mono ?_; rintro e W2 ⟨rfl, hb2⟩; have hM2 := hM1.below hb2; have G2 := Lib.hid (A.below_step G1.out hb2); have h181 := hM2.att; have h78 : W2.cell? ⟨b, 78, none⟩ = some (.int .u8 (q 78)) := hM2.atq 78 (by decide) .u8 rfl; have h87 : W2.cell? ⟨b, 87, none⟩ = some (.int .i64 (q 87)) := hM2.atq 87 (by decide) .i64 rfl; clear hM1 hb2)
    | ((with_reducible refine wpl_store_mq rfl _ _ _ rfl ?_); refine ⟨b, 86, _, c, _, t, 0, .i64, rfl, rfl, by decide, rfl, Tryz.size_intA, hM2, ?_⟩; intro W3 hP3 hM3; have G3 := Lib.hid (A.put_grown G2.out hP3); have h78 : W3.cell? ⟨b, 78, none⟩ = some (.int .u8 (q 78)) := hM3.atq 78 (by decide) .u8 rfl; have h87 : W3.cell? ⟨b, 87, none⟩ = some (.int .i64 (q 87)) := hM3.atq 87 (by decide) .i64 rfl; clear hM2 hP3 h181)
    | (go_at_call 136; refine (more_any _ _ B87.out.1 B87.out.2).mono ?_; rintro e w1 ⟨rfl, rfl⟩)
    | ((with_reducible refine wpl_store_mq rfl _ _ _ rfl ?_); refine ⟨b, 87, _, c, _, t, _, .i64, rfl, rfl, by decide, rfl, Tryz.size_intA, hM3, ?_⟩; intro W4 hP4 hM4; have G4 := Lib.hid (A.put_grown G3.out hP4)))
  refine bodyPost_end (results_none rfl _ _ _) rfl ?_
  exact ⟨rfl, ⟨by rw [E.out]; rw [← A.upd_same86 q (A.more (q 86)) 0]; exact hM3, G3.out⟩⟩
set_option maxRecDepth 100000 in
set_option maxHeartbeats 1000000 in
theorem mclocks_011 (q c : Nat → Int) (F : Nat) (g p d : Int) (ca : Bool) (t : Int) (b : Nat) (w : World) (hM : A.MvAt w b q c ((F : Int), g, p, d, ca) t) (hF : F < 64) (hc : BdOk c) (hq : PosOk q)
    (k : Int) (hk : A.kind c ((F : Int), g, p, d, ca) = k) (d1 : (k == 1) = false) (d2 : decide (0 ≤ t) = true) (d3 : (q 78 == 1) = true) :
    Calls Tryz.prog 67 #[.pointer (some ⟨b, 0, none⟩)] w fun e w' => e = .returned (.tuple #[]) ∧ A.Step b (A.clocks c q ((F : Int), g, p, d, ca) t) c ((F : Int), g, p, d, ca) t w w' := by
  have b86 := A.pos_i64 hq (i := 86) (by decide) rfl
  have b87 := A.pos_i64 hq (i := 87) (by decide) rfl
  have h86 : w.cell? ⟨b, 86, none⟩ = some (.int .i64 (q 86)) := hM.atq 86 (by decide) .i64 rfl
  have E := Lib.hid (show A.clocks c q ((F : Int), g, p, d, ca) t = (upd (upd q 86 0) 87 (A.more (q 87))) by
    unfold A.clocks
    rw [hk, if_pos (by simpa using d3), if_pos (by simp at d1 d2; omega)])
  have HK : Hid (∀ W, A.MvAt W b (upd q 86 (A.more (q 86))) c ((F : Int), g, p, d, ca) t → Calls Tryz.prog 134 #[.pointer (some ⟨b, 0, none⟩)] W fun e w' => e = .returned (.int .u8 k) ∧ Below W.heap.size W w') := Lib.hid (fun W h => hk ▸ mkind_any _ c F g p d ca t b W h hF hc)
  have B86 := Lib.hid b86
  have B87 := Lib.hid b87
  have G0 := Lib.hid (World.grownBy.refl w (some b))
  clear hc hq hk b86 b87
  go_enter Tryz.func67, Tryz.ntmps67
  go_upto_region 1 with (first
    | (go_at_call 136; refine (more_any _ _ B86.out.1 B86.out.2).mono ?_; rintro e w1 ⟨rfl, rfl⟩)
    | ((with_reducible refine wpl_store_mq rfl _ _ _ rfl ?_); refine ⟨b, 86, q, c, _, t, _, .i64, rfl, rfl, by decide, rfl, Tryz.size_intA, hM, ?_⟩; intro W1 hP1 hM1))
  have G1 := Lib.hid (A.put_grown G0.out hP1)
  clear h86 hM hP1 G0
  go_wp2_with (first
    | (go_at_call 134; refine (HK.out _ hM1).mono ?_; rintro e W2 ⟨rfl, hb2⟩; have hM2 := hM1.below hb2; have G2 := Lib.hid (A.below_step G1.out hb2); have h181 := hM2.att; have h78 : W2.cell? ⟨b, 78, none⟩ = some (.int .u8 (q 78)) := hM2.atq 78 (by decide) .u8 rfl; have h87 : W2.cell? ⟨b, 87, none⟩ = some (.int .i64 (q 87)) := hM2.atq 87 (by decide) .i64 rfl; clear hM1 hb2)
    | ((with_reducible refine wpl_store_mq rfl _ _ _ rfl ?_); refine ⟨b, 86, _, c, _, t, 0, .i64, rfl, rfl, by decide, rfl, Tryz.size_intA, hM2, ?_⟩; intro W3 hP3 hM3; have G3 := Lib.hid (A.put_grown G2.out hP3); have h78 : W3.cell? ⟨b, 78, none⟩ = some (.int .u8 (q 78)) := hM3.atq 78 (by decide) .u8 rfl; have h87 : W3.cell? ⟨b, 87, none⟩ = some (.int .i64 (q 87)) := hM3.atq 87 (by decide) .i64 rfl; clear hM2 hP3 h181)
    | (go_at_call 136; refine (more_any _ _ B87.out.1 B87.out.2).mono ?_; rintro e w1 ⟨rfl, rfl⟩)
    | ((with_reducible refine wpl_store_mq rfl _ _ _ rfl ?_); refine ⟨b, 87, _, c, _, t, _, .i64, rfl, rfl, by decide, rfl, Tryz.size_intA, hM3, ?_⟩; intro W4 hP4 hM4; have G4 := Lib.hid (A.put_grown G3.out hP4)))
  refine bodyPost_end (results_none rfl _ _ _) rfl ?_
  exact ⟨rfl, ⟨by rw [E.out]; rw [← A.upd_same86 q (A.more (q 86)) 0]; exact hM4, G4.out⟩⟩
set_option maxRecDepth 100000 in
set_option maxHeartbeats 1000000 in
theorem mclocks_010 (q c : Nat → Int) (F : Nat) (g p d : Int) (ca : Bool) (t : Int) (b : Nat) (w : World) (hM : A.MvAt w b q c ((F : Int), g, p, d, ca) t) (hF : F < 64) (hc : BdOk c) (hq : PosOk q)
    (k : Int) (hk : A.kind c ((F : Int), g, p, d, ca) = k) (d1 : (k == 1) = false) (d2 : decide (0 ≤ t) = true) (d3 : (q 78 == 1) = false) :
    Calls Tryz.prog 67 #[.pointer (some ⟨b, 0, none⟩)] w fun e w' => e = .returned (.tuple #[]) ∧ A.Step b (A.clocks c q ((F : Int), g, p, d, ca) t) c ((F : Int), g, p, d, ca) t w w' := by
  have b86 := A.pos_i64 hq (i := 86) (by decide) rfl
  have b87 := A.pos_i64 hq (i := 87) (by decide) rfl
  have h86 : w.cell? ⟨b, 86, none⟩ = some (.int .i64 (q 86)) := hM.atq 86 (by decide) .i64 rfl
  have E := Lib.hid (show A.clocks c q ((F : Int), g, p, d, ca) t = (upd q 86 0) by
    unfold A.clocks
    rw [hk, if_neg (by simpa using d3), if_pos (by simp at d1 d2; omega)])
  have HK : Hid (∀ W, A.MvAt W b (upd q 86 (A.more (q 86))) c ((F : Int), g, p, d, ca) t → Calls Tryz.prog 134 #[.pointer (some ⟨b, 0, none⟩)] W fun e w' => e = .returned (.int .u8 k) ∧ Below W.heap.size W w') := Lib.hid (fun W h => hk ▸ mkind_any _ c F g p d ca t b W h hF hc)
  have B86 := Lib.hid b86
  have B87 := Lib.hid b87
  have G0 := Lib.hid (World.grownBy.refl w (some b))
  clear hc hq hk b86 b87
  go_enter Tryz.func67, Tryz.ntmps67
  go_upto_region 1 with (first
    | (go_at_call 136; refine (more_any _ _ B86.out.1 B86.out.2).mono ?_; rintro e w1 ⟨rfl, rfl⟩)
    | ((with_reducible refine wpl_store_mq rfl _ _ _ rfl ?_); refine ⟨b, 86, q, c, _, t, _, .i64, rfl, rfl, by decide, rfl, Tryz.size_intA, hM, ?_⟩; intro W1 hP1 hM1))
  have G1 := Lib.hid (A.put_grown G0.out hP1)
  clear h86 hM hP1 G0
  go_wp2_with (first
    | (go_at_call 134; refine (HK.out _ hM1).mono ?_; rintro e W2 ⟨rfl, hb2⟩; have hM2 := hM1.below hb2; have G2 := Lib.hid (A.below_step G1.out hb2); have h181 := hM2.att; have h78 : W2.cell? ⟨b, 78, none⟩ = some (.int .u8 (q 78)) := hM2.atq 78 (by decide) .u8 rfl; have h87 : W2.cell? ⟨b, 87, none⟩ = some (.int .i64 (q 87)) := hM2.atq 87 (by decide) .i64 rfl; clear hM1 hb2)
    | ((with_reducible refine wpl_store_mq rfl _ _ _ rfl ?_); refine ⟨b, 86, _, c, _, t, 0, .i64, rfl, rfl, by decide, rfl, Tryz.size_intA, hM2, ?_⟩; intro W3 hP3 hM3; have G3 := Lib.hid (A.put_grown G2.out hP3); have h78 : W3.cell? ⟨b, 78, none⟩ = some (.int .u8 (q 78)) := hM3.atq 78 (by decide) .u8 rfl; have h87 : W3.cell? ⟨b, 87, none⟩ = some (.int .i64 (q 87)) := hM3.atq 87 (by decide) .i64 rfl; clear hM2 hP3 h181)
    | (go_at_call 136; refine (more_any _ _ B87.out.1 B87.out.2).mono ?_; rintro e w1 ⟨rfl, rfl⟩)
    | ((with_reducible refine wpl_store_mq rfl _ _ _ rfl ?_); refine ⟨b, 87, _, c, _, t, _, .i64, rfl, rfl, by decide, rfl, Tryz.size_intA, hM3, ?_⟩; intro W4 hP4 hM4; have G4 := Lib.hid (A.put_grown G3.out hP4)))
  refine bodyPost_end (results_none rfl _ _ _) rfl ?_
  exact ⟨rfl, ⟨by rw [E.out]; rw [← A.upd_same86 q (A.more (q 86)) 0]; exact hM3, G3.out⟩⟩
set_option maxRecDepth 100000 in
set_option maxHeartbeats 1000000 in
theorem mclocks_001 (q c : Nat → Int) (F : Nat) (g p d : Int) (ca : Bool) (t : Int) (b : Nat) (w : World) (hM : A.MvAt w b q c ((F : Int), g, p, d, ca) t) (hF : F < 64) (hc : BdOk c) (hq : PosOk q)
    (k : Int) (hk : A.kind c ((F : Int), g, p, d, ca) = k) (d1 : (k == 1) = false) (d2 : decide (0 ≤ t) = false) (d3 : (q 78 == 1) = true) :
    Calls Tryz.prog 67 #[.pointer (some ⟨b, 0, none⟩)] w fun e w' => e = .returned (.tuple #[]) ∧ A.Step b (A.clocks c q ((F : Int), g, p, d, ca) t) c ((F : Int), g, p, d, ca) t w w' := by
  have b86 := A.pos_i64 hq (i := 86) (by decide) rfl
  have b87 := A.pos_i64 hq (i := 87) (by decide) rfl
  have h86 : w.cell? ⟨b, 86, none⟩ = some (.int .i64 (q 86)) := hM.atq 86 (by decide) .i64 rfl
  have E := Lib.hid (show A.clocks c q ((F : Int), g, p, d, ca) t = (upd (upd q 86 (A.more (q 86))) 87 (A.more (q 87))) by
    unfold A.clocks
    rw [hk, if_pos (by simpa using d3), if_neg (by simp at d1 d2; omega)])
  have HK : Hid (∀ W, A.MvAt W b (upd q 86 (A.more (q 86))) c ((F : Int), g, p, d, ca) t → Calls Tryz.prog 134 #[.pointer (some ⟨b, 0, none⟩)] W fun e w' => e = .returned (.int .u8 k) ∧ Below W.heap.size W w') := Lib.hid (fun W h => hk ▸ mkind_any _ c F g p d ca t b W h hF hc)
  have B86 := Lib.hid b86
  have B87 := Lib.hid b87
  have G0 := Lib.hid (World.grownBy.refl w (some b))
  clear hc hq hk b86 b87
  go_enter Tryz.func67, Tryz.ntmps67
  go_upto_region 1 with (first
    | (go_at_call 136; refine (more_any _ _ B86.out.1 B86.out.2).mono ?_; rintro e w1 ⟨rfl, rfl⟩)
    | ((with_reducible refine wpl_store_mq rfl _ _ _ rfl ?_); refine ⟨b, 86, q, c, _, t, _, .i64, rfl, rfl, by decide, rfl, Tryz.size_intA, hM, ?_⟩; intro W1 hP1 hM1))
  have G1 := Lib.hid (A.put_grown G0.out hP1)
  clear h86 hM hP1 G0
  go_wp2_with (first
    | (go_at_call 134; refine (HK.out _ hM1).mono ?_; rintro e W2 ⟨rfl, hb2⟩; have hM2 := hM1.below hb2; have G2 := Lib.hid (A.below_step G1.out hb2); have h181 := hM2.att; have h78 : W2.cell? ⟨b, 78, none⟩ = some (.int .u8 (q 78)) := hM2.atq 78 (by decide) .u8 rfl; have h87 : W2.cell? ⟨b, 87, none⟩ = some (.int .i64 (q 87)) := hM2.atq 87 (by decide) .i64 rfl; clear hM1 hb2)
    | ((with_reducible refine wpl_store_mq rfl _ _ _ rfl ?_); refine ⟨b, 86, _, c, _, t, 0, .i64, rfl, rfl, by decide, rfl, Tryz.size_intA, hM2, ?_⟩; intro W3 hP3 hM3; have G3 := Lib.hid (A.put_grown G2.out hP3); have h78 : W3.cell? ⟨b, 78, none⟩ = some (.int .u8 (q 78)) := hM3.atq 78 (by decide) .u8 rfl; have h87 : W3.cell? ⟨b, 87, none⟩ = some (.int .i64 (q 87)) := hM3.atq 87 (by decide) .i64 rfl; clear hM2 hP3 h181)
    | (go_at_call 136; refine (more_any _ _ B87.out.1 B87.out.2).mono ?_; rintro e w1 ⟨rfl, rfl⟩)
    | ((with_reducible refine wpl_store_mq rfl _ _ _ rfl ?_); refine ⟨b, 87, _, c, _, t, _, .i64, rfl, rfl, by decide, rfl, Tryz.size_intA, hM2, ?_⟩; intro W4 hP4 hM4; have G4 := Lib.hid (A.put_grown G2.out hP4)))
  refine bodyPost_end (results_none rfl _ _ _) rfl ?_
  exact ⟨rfl, ⟨by rw [E.out]; exact hM4, G4.out⟩⟩
set_option maxRecDepth 100000 in
set_option maxHeartbeats 1000000 in
theorem mclocks_000 (q c : Nat → Int) (F : Nat) (g p d : Int) (ca : Bool) (t : Int) (b : Nat) (w : World) (hM : A.MvAt w b q c ((F : Int), g, p, d, ca) t) (hF : F < 64) (hc : BdOk c) (hq : PosOk q)
    (k : Int) (hk : A.kind c ((F : Int), g, p, d, ca) = k) (d1 : (k == 1) = false) (d2 : decide (0 ≤ t) = false) (d3 : (q 78 == 1) = false) :
    Calls Tryz.prog 67 #[.pointer (some ⟨b, 0, none⟩)] w fun e w' => e = .returned (.tuple #[]) ∧ A.Step b (A.clocks c q ((F : Int), g, p, d, ca) t) c ((F : Int), g, p, d, ca) t w w' := by
  have b86 := A.pos_i64 hq (i := 86) (by decide) rfl
  have b87 := A.pos_i64 hq (i := 87) (by decide) rfl
  have h86 : w.cell? ⟨b, 86, none⟩ = some (.int .i64 (q 86)) := hM.atq 86 (by decide) .i64 rfl
  have E := Lib.hid (show A.clocks c q ((F : Int), g, p, d, ca) t = (upd q 86 (A.more (q 86))) by
    unfold A.clocks
    rw [hk, if_neg (by simpa using d3), if_neg (by simp at d1 d2; omega)])
  have HK : Hid (∀ W, A.MvAt W b (upd q 86 (A.more (q 86))) c ((F : Int), g, p, d, ca) t → Calls Tryz.prog 134 #[.pointer (some ⟨b, 0, none⟩)] W fun e w' => e = .returned (.int .u8 k) ∧ Below W.heap.size W w') := Lib.hid (fun W h => hk ▸ mkind_any _ c F g p d ca t b W h hF hc)
  have B86 := Lib.hid b86
  have B87 := Lib.hid b87
  have G0 := Lib.hid (World.grownBy.refl w (some b))
  clear hc hq hk b86 b87
  go_enter Tryz.func67, Tryz.ntmps67
  go_upto_region 1 with (first
    | (go_at_call 136; refine (more_any _ _ B86.out.1 B86.out.2).mono ?_; rintro e w1 ⟨rfl, rfl⟩)
    | ((with_reducible refine wpl_store_mq rfl _ _ _ rfl ?_); refine ⟨b, 86, q, c, _, t, _, .i64, rfl, rfl, by decide, rfl, Tryz.size_intA, hM, ?_⟩; intro W1 hP1 hM1))
  have G1 := Lib.hid (A.put_grown G0.out hP1)
  clear h86 hM hP1 G0
  go_wp2_with (first
    | (go_at_call 134; refine (HK.out _ hM1).mono ?_; rintro e W2 ⟨rfl, hb2⟩; have hM2 := hM1.below hb2; have G2 := Lib.hid (A.below_step G1.out hb2); have h181 := hM2.att; have h78 : W2.cell? ⟨b, 78, none⟩ = some (.int .u8 (q 78)) := hM2.atq 78 (by decide) .u8 rfl; have h87 : W2.cell? ⟨b, 87, none⟩ = some (.int .i64 (q 87)) := hM2.atq 87 (by decide) .i64 rfl; clear hM1 hb2)
    | ((with_reducible refine wpl_store_mq rfl _ _ _ rfl ?_); refine ⟨b, 86, _, c, _, t, 0, .i64, rfl, rfl, by decide, rfl, Tryz.size_intA, hM2, ?_⟩; intro W3 hP3 hM3; have G3 := Lib.hid (A.put_grown G2.out hP3); have h78 : W3.cell? ⟨b, 78, none⟩ = some (.int .u8 (q 78)) := hM3.atq 78 (by decide) .u8 rfl; have h87 : W3.cell? ⟨b, 87, none⟩ = some (.int .i64 (q 87)) := hM3.atq 87 (by decide) .i64 rfl; clear hM2 hP3 h181)
    | (go_at_call 136; refine (more_any _ _ B87.out.1 B87.out.2).mono ?_; rintro e w1 ⟨rfl, rfl⟩)
    | ((with_reducible refine wpl_store_mq rfl _ _ _ rfl ?_); refine ⟨b, 87, _, c, _, t, _, .i64, rfl, rfl, by decide, rfl, Tryz.size_intA, hM2, ?_⟩; intro W4 hP4 hM4; have G4 := Lib.hid (A.put_grown G2.out hP4)))
  refine bodyPost_end (results_none rfl _ _ _) rfl ?_
  exact ⟨rfl, ⟨by rw [E.out]; exact hM2, G2.out⟩⟩
theorem mclocks_any (q c : Nat → Int) (F : Nat) (g p d : Int) (ca : Bool) (t : Int) (b : Nat) (w : World) (hM : A.MvAt w b q c ((F : Int), g, p, d, ca) t) (hF : F < 64) (hc : BdOk c) (hq : PosOk q) :
    Calls Tryz.prog 67 #[.pointer (some ⟨b, 0, none⟩)] w fun e w' => e = .returned (.tuple #[]) ∧ A.Step b (A.clocks c q ((F : Int), g, p, d, ca) t) c ((F : Int), g, p, d, ca) t w w' := by
  cases h1 : (A.kind c ((F : Int), g, p, d, ca) == 1) <;> cases h2 : decide (0 ≤ t) <;> cases h3 : (q 78 == 1)
  · exact mclocks_000 q c F g p d ca t b w hM hF hc hq _ rfl h1 h2 h3
  · exact mclocks_001 q c F g p d ca t b w hM hF hc hq _ rfl h1 h2 h3
  · exact mclocks_010 q c F g p d ca t b w hM hF hc hq _ rfl h1 h2 h3
  · exact mclocks_011 q c F g p d ca t b w hM hF hc hq _ rfl h1 h2 h3
  · exact mclocks_100 q c F g p d ca t b w hM hF hc hq _ rfl h1 h2 h3
  · exact mclocks_101 q c F g p d ca t b w hM hF hc hq _ rfl h1 h2 h3
  · exact mclocks_110 q c F g p d ca t b w hM hF hc hq _ rfl h1 h2 h3
  · exact mclocks_111 q c F g p d ca t b w hM hF hc hq _ rfl h1 h2 h3
end Go.Proofs.YtgkndhpolcnjbaaGreatDoor
namespace Go.Proofs.YtgkndhpolcnjbaaGreatDoor
open Go.RowKit Go.Sort
theorem range_grow {w : World} {b off : Nat} {cs : List Value} (h : w.rangeAt b off cs) (d : Nat) (os : Array Obj) : (grow (redrawn w d) os).rangeAt b off cs := fun j v hj => by
  have := h j v hj
  exact ((below_regrown w d os).cell (p := ⟨b, off + j, none⟩) (World.block_lt_of_cell? w _ this)).trans this
/-- Part of a row is loaded in a drawn region whose callees make memory. -/
theorem quiet_load_mid {P : Program} {K : Act → Prop} {a : Act} {o : Oper} {w : World} (ty : TypeId) (x : Operand) (ho : o.op = .load ty x) {d : TypeDesc} (hu : P.underlying ty = some d) (hd : d.isRow = true)
    (h : ∃ (b off : Nat) (cs : List Value), a.eval x = .pointer (some ⟨b, off, none⟩) ∧ w.rangeAt b off cs ∧ (P.info? ty).map (·.size) = some cs.length ∧ K (a.put o.dst (.agg cs.toArray))) : o.quiet P a (fun w' => ∃ p : Regrown, w' = grow (redrawn w p.d) p.os) K := by
  obtain ⟨b, off, cs, hx, hp, hi, h⟩ := h
  refine ⟨.agg cs.toArray, fun w' ⟨p, e⟩ => ?_, h⟩
  have hg : w'.rangeAt b off cs := by rw [e]; exact range_grow hp _ _
  unfold Oper.quietAt execOp
  simp only [ho, hx, Instr.loadAt, Instr.sureAddr, Sem.run_bind, Sem.run_pure, Result.andThen_ok, run_loadVar_mid w' b off ty cs d hg hu hd hi]
  exact ⟨rfl, rfl⟩
namespace A
theorem posL_info (c : Nat → Int) : (Tryz.prog.info? 31).map (·.size) = some (posL c).length := by rw [Tryz.infoPos]; simp [posL]
theorem cell_info (m : Mv) : (Tryz.prog.info? 40).map (·.size) = some (M.cell m).length := by kernel_rfl
/-- Where a step is taken: the tables stand, the mover's box is younger than they. -/
structure Ctx (w0 w : World) (b : Nat) : Prop where
  tb : Tb w0
  below : Below w0.heap.size w0 w
  le : w0.heap.size ≤ b
theorem Ctx.tb' {w0 w : World} {b : Nat} (h : Ctx w0 w b) : Tb w := tb_below h.tb h.below
theorem Ctx.put {w0 w w' : World} {b : Nat} (h : Ctx w0 w b) (hP : Put b w w') : Ctx w0 w' b := ⟨h.tb, hP.below h.below h.le, h.le⟩
theorem Ctx.next {w0 w w' : World} {b : Nat} (h : Ctx w0 w b) (hb : Below w.heap.size w w') : Ctx w0 w' b := ⟨h.tb, below_next h.below hb, h.le⟩
theorem Ctx.grown {w0 w w' : World} {b : Nat} (h : Ctx w0 w b) (hg : w.grownBy w' (some b)) : Ctx w0 w' b :=
  ⟨h.tb, h.below.grown hg h.below.size (fun k e => by cases e; exact h.le), h.le⟩
theorem posOk_upd {c : Nat → Int} (h : PosOk c) (i : Nat) (n : Int) (hn : (Lit.int (pk i) n).wf = true) : PosOk (upd c i n) := fun j hj => by
  unfold upd
  split
  · subst j; exact hn
  · exact h j hj
end A
end Go.Proofs.YtgkndhpolcnjbaaGreatDoor
namespace Go.Proofs.YtgkndhpolcnjbaaGreatDoor
open Go.RowKit Go.Sort
section
variable {ops : Array Oper} {Q : Exit → Act → World → Prop} {md : Region.Mode} {S : World → Prop} {fuel : Nat} {listed : Array Bool} {a : Act} {w : World}
theorem A.takeLoad (i : Nat) (d : Option Tmp) (ty : TypeId) (x : Operand) (b off : Nat) (cs : List Value) {dd : TypeDesc} (ho : Nat.blt i ops.size = true) (hr : Region.ready md ops listed = [i]) (hw : Region.wanted (ops.getD i default) (yielded ops a.tmps) = true)
    (hd : (ops.getD i default).dst = d) (hop : (ops.getD i default).op = .load ty x) (hx : a.eval x = .pointer (some ⟨b, off, none⟩)) (hp : w.rangeAt b off cs) (hu : Tryz.prog.underlying ty = some dd) (hrow : dd.isRow = true) (hi : (Tryz.prog.info? ty).map (·.size) = some cs.length)
    (h : S w ∧ wpAnyH Tryz.prog md ops Q S fuel (listed.setIfInBounds i true) (a.put d (.agg cs.toArray)) w) : wpAnyH Tryz.prog md ops Q S (fuel + 1) listed a w := by
  refine takeOne i ho hr hw ?_
  refine wp_load_mid ty x hop b off hx cs _ hp hu hrow hi ?_
  rw [hd]
  exact h
theorem A.takeStoreQ (i : Nat) (ty : TypeId) (x y : Operand) {b j : Nat} {q c : Nat → Int} {m : Mv} {t n : Int} {k : IntKind} (ho : Nat.blt i ops.size = true) (hr : Region.ready md ops listed = [i]) (hw : Region.wanted (ops.getD i default) (yielded ops a.tmps) = true)
    (hd : (ops.getD i default).dst = none) (hop : (ops.getD i default).op = .store ty x y) (hx : a.eval x = .pointer (some ⟨b, j, none⟩)) (hy : a.eval y = .int k n) (hj : j < 88) (hk : pk j = k) (hs : (Tryz.prog.info? ty).map (·.size) = some 1) (hp : A.MvAt w b q c m t)
    (h : ∀ W' : World, Put b w W' → A.MvAt W' b (upd q j n) c m t → S W' ∧ wpAnyH Tryz.prog md ops Q S fuel (listed.setIfInBounds i true) a W') : wpAnyH Tryz.prog md ops Q S (fuel + 1) listed a w := by
  refine takeOne i ho hr hw ?_
  refine wp_store_mq ty x y hop hx hy hj hk hs hp fun W' h1 h2 => ?_
  rw [hd]
  exact h W' h1 h2
theorem A.takeStoreP (i : Nat) (x y : Operand) {b : Nat} {q q' c : Nat → Int} {m : Mv} {t : Int} (ho : Nat.blt i ops.size = true) (hr : Region.ready md ops listed = [i]) (hw : Region.wanted (ops.getD i default) (yielded ops a.tmps) = true)
    (hd : (ops.getD i default).dst = none) (hop : (ops.getD i default).op = .store 31 x y) (hx : a.eval x = .pointer (some ⟨b, 0, none⟩)) (hy : a.eval y = .agg (posC q')) (hp : A.MvAt w b q c m t)
    (h : ∀ W' : World, Put b w W' → A.MvAt W' b q' c m t → S W' ∧ wpAnyH Tryz.prog md ops Q S fuel (listed.setIfInBounds i true) a W') : wpAnyH Tryz.prog md ops Q S (fuel + 1) listed a w := by
  refine takeOne i ho hr hw ?_
  refine wp_store_mp x y hop hx hy hp fun W' h1 h2 => ?_
  rw [hd]
  exact h W' h1 h2
end
end Go.Proofs.YtgkndhpolcnjbaaGreatDoor
namespace Go.Proofs.YtgkndhpolcnjbaaGreatDoor
open Go.RowKit Go.Sort
attribute [local go_sem] Oper.semAt_some
namespace A
def blownV (q : Nat → Int) (s : Int) : BitVec 64 := if 0 ≤ s ∧ s < 64 then blown q s else 0#64
def near (q : Nat → Int) (s : Int) : Nat → BitVec 64
  | 0 => bAnd (R.king s) (S.all q)
  | 1 => bAndn (bAnd (R.king s) (S.all q)) (S.of q 0 1)
  | _ => bAndn (bAndn (bAnd (R.king s) (S.all q)) (S.of q 0 1)) (S.of q 1 1)
end A
set_option maxRecDepth 100000 in
set_option maxHeartbeats 1000000 in
theorem blown_any (q : Nat → Int) (s : Int) (w : World) (hq : BdOk q) :
    Calls Tryz.prog 16 #[.agg (posC q), .int .i64 s] w fun e w' => e = .returned (.int .u64 (U (A.blownV q s))) ∧ Below w.heap.size w w' := by
  have hb0 : Below w.heap.size w (w.alloc (.cells (posC q) 31)) := (Below.refl _ _).alloc (Nat.le_refl _) _
  have hp := PosAt.new w q
  by_cases h : s < 0
  · have d1 : decide (s < 0) = true := decide_eq_true h
    have E := Lib.hid (show A.blownV q s = 0#64 by unfold A.blownV; rw [if_neg (by omega)])
    clear hp
    go_enter Tryz.func16, Tryz.ntmps16
    go_wp2
    go_ret
    exact ⟨ret_int (by rw [E.out]; rfl), hb0⟩
  · have d1 : decide (s < 0) = false := decide_eq_false h
    by_cases h2 : 64 ≤ s
    · have d2 : decide (64 ≤ s) = true := decide_eq_true h2
      have E := Lib.hid (show A.blownV q s = 0#64 by unfold A.blownV; rw [if_neg (by omega)])
      clear hp
      go_enter Tryz.func16, Tryz.ntmps16
      go_wp2
      go_ret
      exact ⟨ret_int (by rw [E.out]; rfl), hb0⟩
    · have d2 : decide (64 ≤ s) = false := decide_eq_false h2
      obtain ⟨n, rfl⟩ : ∃ n : Nat, s = (n : Int) := ⟨s.toNat, by omega⟩
      have E := Lib.hid (show A.blownV q (n : Int) = bOr (A.near q (n : Int) 2) (B.one (n : Int)) by unfold A.blownV; rw [if_pos (by omega)]; rfl)
      have e1 := B.one_val (n : Int) (by omega) (by omega)
      rw [Int.toNat_natCast] at e1
      have hw : IntKind.u64.wrap (n : Int) = (n : Int) := by rw [IntKind.wrap_u64]; omega
      have E1 := Lib.hid e1
      have HQ := Lib.hid hq
      have HW := Lib.hid hw
      clear hq e1 hw
      go_enter Tryz.func16, Tryz.ntmps16
      go_wp2_with fail
      obtain ⟨W, hW⟩ : ∃ W, w.alloc (.cells (posC q) 31) = W := ⟨_, rfl⟩
      rw [hW] at hb0 hp ⊢
      clear hW
      refine region_below (by kernel_rfl) (by kernel_rfl) ?_
      repeat (first
        | (go_big_quiet_want; refine quiet_load_box _ rfl ⟨_, _, rfl, hp, ?_⟩; simp only [Act.put, List.setIfInBounds_toArray, List.set_cons_succ, List.set_cons_zero]; go_big_quiet_on)
        | go_big_quiet_step (first
          | (go_at_call 56; exact quiet_below (king_any _ _))
          | (go_at_call 57; exact quiet_below (all_any q _ HQ.out))))
      refine wpQuiet_nil ?_
      intro w1 hb1
      have HP := Lib.hid (hp.below hb1)
      have HB := Lib.hid (below_next hb0 hb1)
      clear hp hb0 hb1
      go_wp2_with fail
      go_loopw [5, 6] (fun vn vi wr => ∃ k : Nat, k ≤ 2 ∧ vi = .int .u8 (k : Int) ∧ vn = .int .u64 (U (A.near q (n : Int) k)) ∧ PosAt wr w.heap.size q ∧ Below w.heap.size w wr) (fun _ vi _ => 2 - (intOf vi).toNat)
      case atStart => exact ⟨0, by omega, rfl, rfl, HP.out, HB.out⟩
      case round =>
        obtain ⟨k, hk, rfl, rfl, hp, hb⟩ := hrel
        rcases (show k = 0 ∨ k = 1 ∨ k = 2 by omega) with rfl | rfl | rfl
        · go_wp2_with (first
            | ((with_reducible refine wp_load_box rfl _ rfl ?_); refine ⟨_, _, rfl, hp, ?_⟩)
            | (go_at_call 58; refine (of_any q _ _ _ HQ.out).mono ?_; rintro e w2 ⟨rfl, hb2⟩))
          go_roundw
          case rel => exact ⟨1, by omega, rfl, rfl, hp.below hb2, below_next hb hb2⟩
          case measure => simp [intOf]
        · go_wp2_with (first
            | ((with_reducible refine wp_load_box rfl _ rfl ?_); refine ⟨_, _, rfl, hp, ?_⟩)
            | (go_at_call 58; refine (of_any q _ _ _ HQ.out).mono ?_; rintro e w2 ⟨rfl, hb2⟩))
          go_roundw
          case rel => exact ⟨2, by omega, rfl, rfl, hp.below hb2, below_next hb hb2⟩
          case measure => simp [intOf]
        · have e1 := E1.out
          have hw := HW.out
          go_wp2
          go_ret
          exact ⟨ret_int (by rw [E.out]), hb⟩
end Go.Proofs.YtgkndhpolcnjbaaGreatDoor
namespace Go.Proofs.YtgkndhpolcnjbaaGreatDoor
open Go.RowKit Go.Sort
theorem A.seg_rooks (q c : Nat → Int) (m : Mv) (t : Int) (i : Nat) (hi : i = 79 ∨ i = 81) (x y : Int) : A.seg (A.mvr q c m t) i [.int .i8 x, .int .i8 y] = A.mvr (upd (upd q i x) (i + 1) y) c m t := by
  rcases hi with rfl | rfl
  · have h1 := A.mvr_upd q c m t 79 x (by decide)
    have h2 := A.mvr_upd (upd q 79 x) c m t 80 y (by decide)
    rw [show pk 79 = .i8 from rfl] at h1
    rw [show pk 80 = .i8 from rfl] at h2
    unfold A.seg A.seg A.seg
    rw [h1, h2]
  · have h1 := A.mvr_upd q c m t 81 x (by decide)
    have h2 := A.mvr_upd (upd q 81 x) c m t 82 y (by decide)
    rw [show pk 81 = .i8 from rfl] at h1
    rw [show pk 82 = .i8 from rfl] at h2
    unfold A.seg A.seg A.seg
    rw [h1, h2]
theorem A.size_i2A : (Tryz.prog.info? 27).map (·.size) = some 2 := by kernel_rfl
theorem wpl_store_mr {ops : Array Oper} {rest : List Oper} {o : Oper} {a : Act} {w : World} {Q : Exit → Act → World → Prop} (hgd : o.guard = none) (x y : Operand) (ho : o.op = .store 27 x y)
    (h : ∃ (b i : Nat) (q c : Nat → Int) (m : Mv) (t n k : Int), a.eval x = .pointer (some ⟨b, i, none⟩) ∧ a.eval y = .agg #[.int .i8 n, .int .i8 k] ∧ (i = 79 ∨ i = 81) ∧ A.MvAt w b q c m t ∧
      ∀ W' : World, Put b w W' → A.MvAt W' b (upd (upd q i n) (i + 1) k) c m t → wpList Tryz.prog ops Q rest (a.put o.dst undef) W') : wpList Tryz.prog ops Q (o :: rest) a w := by
  obtain ⟨b, i, q, c, m, t, n, k, hx, hy, hi, hp, h⟩ := h
  refine wpList_plain hgd fun _ hK => wp_store_mid 27 x y ho b i #[.int .i8 n, .int .i8 k] hx hy (fun j hj => ?_) A.size_i2A (by simp [Value.oneCell']) (hK _ _ (h _ (A.put_cells b _ _ _) ⟨?_⟩))
  · have hj' : j < 2 := hj
    exact ⟨by rw [hp.atq (i + j) (by omega) _ rfl]; rfl, hp.frozen _⟩
  · rw [← A.seg_rooks q c m t i hi n k]
    exact A.row_cells b _ _ _ _ _ hp.row
end Go.Proofs.YtgkndhpolcnjbaaGreatDoor
