/- Several texts in one: AfI. -/

import Derived.Test.YtgkndhpolcnjbaaGreatDoorQa6
import Derived.Test.YtgkndhpolcnjbaaGreatDoorQa3
namespace Go.Proofs.YtgkndhpolcnjbaaGreatDoor
open Go.RowKit Go.Sort
attribute [local go_sem] Oper.semAt_some
theorem A.kind_b (x : Int) (w : World) (h0 : 0 ≤ x) (h1 : x ≤ 255) : Calls Tryz.prog 70 #[.int .u8 x] w fun e w' => e = .returned (.int .u8 (P.kind x)) ∧ Below w.heap.size w w' :=
  (kind_any x w h0 h1).mono (by rintro e w' ⟨h, rfl⟩; exact ⟨h, Below.refl _ _⟩)
theorem marked_grow {c q : Nat → Int} {m : Mv} {t : Int} {b Bx : Nat} (s : Nat) {w : World} {d : Nat} {os : Array Obj} {v : Bool} (hM : A.MvAt w b q c m t) (hB : w.cell? ⟨Bx, 0, none⟩ = some (.pointer (some ⟨b, 0, none⟩))) (hc : PosOk c) (hs : s < 64) (hv : A.mark c (s : Int) = v) :
    Calls Tryz.prog 132 #[.int .i64 (s : Int), .pointer (some ⟨Bx, 0, none⟩)] (grow (redrawn w d) os) fun e w' => e = .returned (.bool v) ∧ Below (grow (redrawn w d) os).heap.size (grow (redrawn w d) os) w' := by
  have hb := below_regrown w d os
  refine (marked_any c q m t b Bx s _ (hM.below hb) ((hb.cell (p := ⟨Bx, 0, none⟩) (World.block_lt_of_cell? w _ hB)).trans hB) hc hs).mono ?_
  rintro e w' ⟨rfl, rfl⟩
  exact ⟨by rw [hv], Below.refl _ _⟩
set_option maxRecDepth 100000 in
set_option maxHeartbeats 1000000 in
theorem mpocket_pfff (q c : Nat → Int) (F G : Nat) (p : Int) (t : Int) (b : Nat) (w : World) (hM : A.MvAt w b q c ((F : Int), (G : Int), p, 0, false) t) (hF64 : F < 64) (hG64 : G < 64) (hc : PosOk c) (hq : PosOk q) (d1 : (q 0 != 2) = false) (dt : decide (0 ≤ t) = false) :
    Calls Tryz.prog 63 #[.pointer (some ⟨b, 0, none⟩)] w fun e w' => e = .returned (.tuple #[]) ∧ A.Step b (A.pocket c q ((F : Int), (G : Int), p, 0, false) t) c ((F : Int), (G : Int), p, 0, false) t w w' := by
  have ET := Lib.hid (show A.pocketT c q t = q by unfold A.pocketT; rw [if_neg (by simpa using dt)])
  have HO2 := Lib.hid (A.ok_pocketT hq c t)
  have HO3 := Lib.hid (A.ok_mark HO2.out (bAndn (A.bs (A.pocketT c q t 65)) (B.one (F : Int))))
  have hp31 := Tryz.underlying31
  have HC := Lib.hid hc
  have HQ0 := Lib.hid hq
  have hwF : IntKind.i64.wrap (F : Int) = (F : Int) := by rw [IntKind.wrap_i64]; omega
  have hwF' : wrap64 (F : Int) = (F : Int) := by simp only [wrap64]; omega
  have hwG : IntKind.i64.wrap (G : Int) = (G : Int) := by rw [IntKind.wrap_i64]; omega
  have hwG' : wrap64 (G : Int) = (G : Int) := by simp only [wrap64]; omega
  have hM1 := hM.alloc (.cells #[.pointer (some ⟨b, 0, none⟩)] 89)
  have hB1 : (w.alloc (.cells #[.pointer (some ⟨b, 0, none⟩)] 89)).cell? ⟨w.heap.size, 0, none⟩ = some (.pointer (some ⟨b, 0, none⟩)) := by
    rw [(RowAt.new w #[.pointer (some ⟨b, 0, none⟩)] 89).cell]; rfl
  have hG1 : w.grownBy (w.alloc (.cells #[.pointer (some ⟨b, 0, none⟩)] 89)) (some b) := A.below_step (World.grownBy.refl w _) ((Below.refl _ _).alloc (Nat.le_refl _) _)
  have hbl := hM.lt
  obtain ⟨Bx, hBe⟩ : ∃ Bx, w.heap.size = Bx := ⟨_, rfl⟩
  have hBb : Bx ≠ b := by omega
  clear hc hq  
  go_enter Tryz.func63, Tryz.ntmps63
  go_upto_region 1 with fail
  obtain ⟨w1, hW1⟩ : ∃ w1, w.alloc (.cells #[.pointer (some ⟨b, 0, none⟩)] 89) = w1 := ⟨_, rfl⟩
  try rw [hBe] at hB1
  try rw [hBe]
  rw [hW1] at hM1 hB1 hG1 ⊢
  clear hM hW1 hbl
  have h0 : w1.cell? ⟨b, 0, none⟩ = some (.int .u8 (q 0)) := hM1.atq 0 (by decide) .u8 rfl
  have h179 : w1.cell? ⟨b, 179, none⟩ = some (.int .u8 0) := hM1.atm 3 _ rfl
  have h180 : w1.cell? ⟨b, 180, none⟩ = some (.bool false) := hM1.atm 4 _ rfl
  have h181 := hM1.att
  have hbl := hM1.lt
  have hbB := World.block_lt_of_cell? w1 _ hB1
  go_upto_region 14 with fail
  clear h0 h179 h180 h181 hbl hbB
  have hM7 := hM1
  have hB7 := hB1
  have hG7 := hG1
  clear hM1 hB1 hG1
  obtain ⟨w7, hw7⟩ : ∃ w7, w1 = w7 := ⟨_, rfl⟩
  rw [hw7] at hM7 hB7 hG7 ⊢
  clear hw7
  rw [← ET.out] at hM7
  obtain ⟨q2, hq2⟩ : ∃ q2, A.pocketT c q t = q2 := ⟨_, rfl⟩
  rw [hq2] at hM7 HO2 HO3
  have HQ2 := Lib.hid hq2
  clear hq2
  have c65 : w7.cell? ⟨b, 65, none⟩ = some (.int .u64 (U (A.bs (q2 65)))) := by rw [A.c65 HO2.out]; exact hM7.atq 65 (by decide) .u64 rfl
  have h176 : w7.cell? ⟨b, 176, none⟩ = some (.int .i8 (F : Int)) := hM7.atm 0 _ rfl
  have hbl := hM7.lt
  have hbB := World.block_lt_of_cell? w7 _ hB7
  have e1 := A.one_at F hF64
  have hwu : IntKind.u64.wrap (F : Int) = (F : Int) := by rw [IntKind.wrap_u64]; omega
  refine region_tail (n := 16) (by kernel_rfl) (by kernel_rfl) ?_
  simp only [List.take_succ_cons, List.take_zero, List.drop_succ_cons, List.drop_zero]
  repeat (first
    | quiet_step (fail))
  refine wpQuiet_nil ?_
  intro w8 hb8
  have hM8 := hM7.below hb8
  have hB8 := (hb8.cell (p := ⟨Bx, 0, none⟩) hbB).trans hB7
  have hG8 := A.below_step hG7 hb8
  clear c65 hbl hbB e1 hM7 hB7 hG7 hb8
  go_upto_region 15 with ((with_reducible refine wpl_store_mq rfl _ _ _ rfl ?_); refine ⟨b, 65, q2, c, _, _, (U (bAndn (A.bs (q2 65)) (B.one (F : Int)))), .u64, rfl, rfl, by decide, rfl, A.size_u64A, hM8, ?_⟩; intro w9 hP9 hM9)
  have hB9 : w9.cell? ⟨Bx, 0, none⟩ = some (.pointer (some ⟨b, 0, none⟩)) := (hP9.cell (p := ⟨Bx, 0, none⟩) hBb).trans hB8
  have hG9 := A.put_grown hG8 hP9
  clear hM8 hB8 hG8 hP9 h176
  obtain ⟨q3, hq3⟩ : ∃ q3, upd q2 65 (U (bAndn (A.bs (q2 65)) (B.one (F : Int)))) = q3 := ⟨_, rfl⟩
  rw [hq3] at hM9 HO3
  cases hp : (p != 0)
  · cases hmf : A.mark c (F : Int)
    · have E := Lib.hid (show A.pocket c q ((F : Int), (G : Int), p, 0, false) t = A.unmark q2 (F : Int) by
        unfold A.pocket
        rw [if_neg (fun h => h.elim (fun h => h (by simpa using d1)) (fun h => h rfl)), if_neg (by simp), if_neg (fun h => h.elim (fun h => h (by simpa using hp)) (fun h => by rw [hmf] at h; cases h)), HQ2.out])
      have HMF := Lib.hid hmf
      clear hmf
      have h178 : w9.cell? ⟨b, 178, none⟩ = some (.int .u8 p) := hM9.atm 2 _ rfl
      have h176 : w9.cell? ⟨b, 176, none⟩ = some (.int .i8 (F : Int)) := hM9.atm 0 _ rfl
      have hbl := hM9.lt
      go_wp2_with (go_at_call 132; refine (marked_any c q3 _ _ b Bx F w9 hM9 hB9 HC.out hF64).mono ?_; rw [HMF.out]; rintro e w4 ⟨rfl, rfl⟩)
      first | refine bodyPost_end (results_none rfl _ _ _) rfl ?_ | refine bodyPost_ret (results_none rfl _ _ _) rfl ?_
      refine ⟨rfl, ⟨?_, hG9⟩⟩
      rw [E.out]
      unfold A.unmark
      rw [hq3]
      exact hM9
    · have E := Lib.hid (show A.pocket c q ((F : Int), (G : Int), p, 0, false) t = A.domark (A.unmark q2 (F : Int)) (G : Int) by
        unfold A.pocket
        rw [if_neg (fun h => h.elim (fun h => h (by simpa using d1)) (fun h => h rfl)), if_neg (by simp), if_pos (.inr hmf), HQ2.out])
      have HMF := Lib.hid hmf
      clear hmf
      have h178 : w9.cell? ⟨b, 178, none⟩ = some (.int .u8 p) := hM9.atm 2 _ rfl
      have h176 : w9.cell? ⟨b, 176, none⟩ = some (.int .i8 (F : Int)) := hM9.atm 0 _ rfl
      have hbl := hM9.lt
      go_upto_region 16 with (go_at_call 132; refine (marked_any c q3 _ _ b Bx F w9 hM9 hB9 HC.out hF64).mono ?_; rw [HMF.out]; rintro e w4 ⟨rfl, rfl⟩)
      clear h178 h176 hbl
      have c65 : w9.cell? ⟨b, 65, none⟩ = some (.int .u64 (U (A.bs (q3 65)))) := by rw [A.c65 HO3.out]; exact hM9.atq 65 (by decide) .u64 rfl
      have h177 : w9.cell? ⟨b, 177, none⟩ = some (.int .i8 (G : Int)) := hM9.atm 1 _ rfl
      have hbl := hM9.lt
      have hbB := World.block_lt_of_cell? w9 _ hB9
      have e1 := A.one_at G hG64
      have hwu : IntKind.u64.wrap (G : Int) = (G : Int) := by rw [IntKind.wrap_u64]; omega
      refine region_tail (n := 16) (by kernel_rfl) (by kernel_rfl) ?_
      simp only [List.take_succ_cons, List.take_zero, List.drop_succ_cons, List.drop_zero]
      repeat (first
        | quiet_step (fail))
      refine wpQuiet_nil ?_
      intro w10 hb10
      have hM10 := hM9.below hb10
      have hB10 := (hb10.cell (p := ⟨Bx, 0, none⟩) hbB).trans hB9
      have hG10 := A.below_step hG9 hb10
      clear c65 hbl hbB e1 hM9 hB9 hG9 hb10
      go_wp2_with ((with_reducible refine wpl_store_mq rfl _ _ _ rfl ?_); refine ⟨b, 65, q3, c, _, _, (U (bOr (A.bs (q3 65)) (B.one (G : Int)))), .u64, rfl, rfl, by decide, rfl, A.size_u64A, hM10, ?_⟩; intro w11 hP11 hM11)
      first | refine bodyPost_end (results_none rfl _ _ _) rfl ?_ | refine bodyPost_ret (results_none rfl _ _ _) rfl ?_
      refine ⟨rfl, ⟨?_, A.put_grown hG10 hP11⟩⟩
      rw [E.out]
      unfold A.domark A.unmark
      rw [hq3]
      exact hM11
  · have E := Lib.hid (show A.pocket c q ((F : Int), (G : Int), p, 0, false) t = A.domark (A.unmark q2 (F : Int)) (G : Int) by
      unfold A.pocket
      rw [if_neg (fun h => h.elim (fun h => h (by simpa using d1)) (fun h => h rfl)), if_neg (by simp), if_pos (.inl (by simpa using hp)), HQ2.out])
    have h178 : w9.cell? ⟨b, 178, none⟩ = some (.int .u8 p) := hM9.atm 2 _ rfl
    have h176 : w9.cell? ⟨b, 176, none⟩ = some (.int .i8 (F : Int)) := hM9.atm 0 _ rfl
    have hbl := hM9.lt
    go_upto_region 16 with fail
    clear h178 h176 hbl
    have c65 : w9.cell? ⟨b, 65, none⟩ = some (.int .u64 (U (A.bs (q3 65)))) := by rw [A.c65 HO3.out]; exact hM9.atq 65 (by decide) .u64 rfl
    have h177 : w9.cell? ⟨b, 177, none⟩ = some (.int .i8 (G : Int)) := hM9.atm 1 _ rfl
    have hbl := hM9.lt
    have hbB := World.block_lt_of_cell? w9 _ hB9
    have e1 := A.one_at G hG64
    have hwu : IntKind.u64.wrap (G : Int) = (G : Int) := by rw [IntKind.wrap_u64]; omega
    refine region_tail (n := 16) (by kernel_rfl) (by kernel_rfl) ?_
    simp only [List.take_succ_cons, List.take_zero, List.drop_succ_cons, List.drop_zero]
    repeat (first
      | quiet_step (fail))
    refine wpQuiet_nil ?_
    intro w10 hb10
    have hM10 := hM9.below hb10
    have hB10 := (hb10.cell (p := ⟨Bx, 0, none⟩) hbB).trans hB9
    have hG10 := A.below_step hG9 hb10
    clear c65 hbl hbB e1 hM9 hB9 hG9 hb10
    go_wp2_with ((with_reducible refine wpl_store_mq rfl _ _ _ rfl ?_); refine ⟨b, 65, q3, c, _, _, (U (bOr (A.bs (q3 65)) (B.one (G : Int)))), .u64, rfl, rfl, by decide, rfl, A.size_u64A, hM10, ?_⟩; intro w11 hP11 hM11)
    first | refine bodyPost_end (results_none rfl _ _ _) rfl ?_ | refine bodyPost_ret (results_none rfl _ _ _) rfl ?_
    refine ⟨rfl, ⟨?_, A.put_grown hG10 hP11⟩⟩
    rw [E.out]
    unfold A.domark A.unmark
    rw [hq3]
    exact hM11
set_option maxRecDepth 100000 in
set_option maxHeartbeats 1000000 in
theorem mpocket_ptff (q c : Nat → Int) (F G : Nat) (p : Int) (t : Int) (b : Nat) (w : World) (hM : A.MvAt w b q c ((F : Int), (G : Int), p, 0, false) t) (hF64 : F < 64) (hG64 : G < 64) (hc : PosOk c) (hq : PosOk q) (d1 : (q 0 != 2) = false) (tn : Nat) (ht64 : tn < 64) (ht : t = (tn : Int)) (hmk : A.mark c (tn : Int) = false) :
    Calls Tryz.prog 63 #[.pointer (some ⟨b, 0, none⟩)] w fun e w' => e = .returned (.tuple #[]) ∧ A.Step b (A.pocket c q ((F : Int), (G : Int), p, 0, false) t) c ((F : Int), (G : Int), p, 0, false) t w w' := by
  have ET := Lib.hid (show A.pocketT c q t = A.unmark (A.add q (q 78) (P.kind (c (1 + tn)))) (tn : Int) by
    subst ht
    unfold A.pocketT
    rw [if_pos (by omega)]
    unfold A.takenKind
    rw [Int.toNat_natCast, if_neg (fun h => by rw [hmk] at h; cases h.1)])
  have hbT := pos_bd hc tn ht64
  have HKi : Hid (∀ W, Calls Tryz.prog 70 #[.int .u8 (c (1 + tn))] W fun e w' => e = .returned (.int .u8 (P.kind (c (1 + tn)))) ∧ Below W.heap.size W w') := Lib.hid (fun W => A.kind_b _ W hbT.1 hbT.2)
  have h78z := (pos_u8 hq (i := 78) (by decide) rfl).1
  have HAd : Hid (∀ W, Calls Tryz.prog 133 #[.agg (posC q), .int .u8 (q 78), .int .u8 (P.kind (c (1 + tn)))] W fun e w' => e = .returned (.agg (posC (A.add q (q 78) (P.kind (c (1 + tn)))))) ∧ Below W.heap.size W w') := Lib.hid (fun W => dadd_any q (q 78) _ W hq h78z)
  have HO1 := Lib.hid (A.ok_add hq (q 78) (P.kind (c (1 + tn))) h78z)
  have ht63 : (tn : Int) < 64 := by omega
  have dt : decide (0 ≤ t) = true := by rw [ht]; simp
  have HO2 := Lib.hid (A.ok_pocketT hq c t)
  have HO3 := Lib.hid (A.ok_mark HO2.out (bAndn (A.bs (A.pocketT c q t 65)) (B.one (F : Int))))
  have hp31 := Tryz.underlying31
  have HC := Lib.hid hc
  have HQ0 := Lib.hid hq
  have hwF : IntKind.i64.wrap (F : Int) = (F : Int) := by rw [IntKind.wrap_i64]; omega
  have hwF' : wrap64 (F : Int) = (F : Int) := by simp only [wrap64]; omega
  have hwG : IntKind.i64.wrap (G : Int) = (G : Int) := by rw [IntKind.wrap_i64]; omega
  have hwG' : wrap64 (G : Int) = (G : Int) := by simp only [wrap64]; omega
  have HMK := Lib.hid hmk
  have hM1 := hM.alloc (.cells #[.pointer (some ⟨b, 0, none⟩)] 89)
  have hB1 : (w.alloc (.cells #[.pointer (some ⟨b, 0, none⟩)] 89)).cell? ⟨w.heap.size, 0, none⟩ = some (.pointer (some ⟨b, 0, none⟩)) := by
    rw [(RowAt.new w #[.pointer (some ⟨b, 0, none⟩)] 89).cell]; rfl
  have hG1 : w.grownBy (w.alloc (.cells #[.pointer (some ⟨b, 0, none⟩)] 89)) (some b) := A.below_step (World.grownBy.refl w _) ((Below.refl _ _).alloc (Nat.le_refl _) _)
  have hbl := hM.lt
  obtain ⟨Bx, hBe⟩ : ∃ Bx, w.heap.size = Bx := ⟨_, rfl⟩
  have hBb : Bx ≠ b := by omega
  clear hc hq hmk hbT h78z 
  go_enter Tryz.func63, Tryz.ntmps63
  go_upto_region 1 with fail
  obtain ⟨w1, hW1⟩ : ∃ w1, w.alloc (.cells #[.pointer (some ⟨b, 0, none⟩)] 89) = w1 := ⟨_, rfl⟩
  try rw [hBe] at hB1
  try rw [hBe]
  rw [hW1] at hM1 hB1 hG1 ⊢
  clear hM hW1 hbl
  have h0 : w1.cell? ⟨b, 0, none⟩ = some (.int .u8 (q 0)) := hM1.atq 0 (by decide) .u8 rfl
  have h179 : w1.cell? ⟨b, 179, none⟩ = some (.int .u8 0) := hM1.atm 3 _ rfl
  have h180 : w1.cell? ⟨b, 180, none⟩ = some (.bool false) := hM1.atm 4 _ rfl
  have h181 := hM1.att
  have hbl := hM1.lt
  have hbB := World.block_lt_of_cell? w1 _ hB1
  go_upto_region 9 with fail
  clear h0 h179 h180
  have hbt : w1.cell? ⟨b, 89 + tn, none⟩ = some (.int .u8 (c (1 + tn))) := by
    have := hM1.atc (1 + tn) (by omega) .u8 (A.pk_sq (by omega))
    rwa [show 88 + (1 + tn) = 89 + tn by omega] at this
  subst ht
  refine region_below (by kernel_rfl) (by kernel_rfl) ?_
  repeat (go_big_quiet_step (first
    | (go_at_call 70; exact quiet_below (HKi.out _))))
  refine wpQuiet_nil ?_
  intro w2 hb2
  have hM2 := hM1.below hb2
  have hB2 := (hb2.cell (p := ⟨Bx, 0, none⟩) hbB).trans hB1
  have hG2 := A.below_step hG1 hb2
  clear hM1 hB1 hG1 hb2 h181 hbl hbB hbt
  have h181 := hM2.att
  have hbl := hM2.lt
  have hbB := World.block_lt_of_cell? w2 _ hB2
  have hbt : w2.cell? ⟨b, 89 + tn, none⟩ = some (.int .u8 (c (1 + tn))) := by
    have := hM2.atc (1 + tn) (by omega) .u8 (A.pk_sq (by omega))
    rwa [show 88 + (1 + tn) = 89 + tn by omega] at this
  go_upto_region 10 with fail
  refine region_below (by kernel_rfl) (by kernel_rfl) ?_
  repeat (go_big_quiet_step (first
    | (go_at_call 132; exact quiet_below (marked_grow tn hM2 hB2 HC.out ht64 HMK.out))))
  refine wpQuiet_nil ?_
  intro w3 hb3
  have hM3 := hM2.below hb3
  have hB3 := (hb3.cell (p := ⟨Bx, 0, none⟩) hbB).trans hB2
  have hG3 := A.below_step hG2 hb3
  clear hM2 hB2 hG2 hb3 h181 hbl hbB hbt
  have h78 : w3.cell? ⟨b, 78, none⟩ = some (.int .u8 (q 78)) := hM3.atq 78 (by decide) .u8 rfl
  have hrq := hM3.rq
  have hbl := hM3.lt
  have hbB := World.block_lt_of_cell? w3 _ hB3
  go_upto_region 12 with fail
  refine region_tail (n := 14) (by kernel_rfl) (by kernel_rfl) ?_
  simp only [List.take_succ_cons, List.take_zero, List.drop_succ_cons, List.drop_zero]
  repeat (first
    | (refine BigFrame.wpQuiet_want rfl (fun Kq hKq => quiet_load_mid 31 _ rfl hp31 rfl ⟨b, 0, posL q, rfl, hrq, A.posL_info _, hKq _ ?_⟩); simp only [Act.put, List.setIfInBounds_toArray, List.set_cons_succ, List.set_cons_zero])
    | quiet_step ((go_at_call 133; exact quiet_below (HAd.out _))))
  refine wpQuiet_nil ?_
  intro w4 hb4
  have hM4 := hM3.below hb4
  have hB4 := (hb4.cell (p := ⟨Bx, 0, none⟩) hbB).trans hB3
  have hG4 := A.below_step hG3 hb4
  clear hM3 hB3 hG3 hb4 h78 hrq hbl hbB
  obtain ⟨q1, hq1⟩ : ∃ q1, A.add q (q 78) (P.kind (c (1 + tn))) = q1 := ⟨_, rfl⟩
  rw [hq1] at HO1 ET
  try rw [hq1]
  go_upto_region 13 with ((with_reducible refine wpl_store_mp rfl _ _ rfl ?_); refine ⟨b, q, q1, c, _, _, rfl, rfl, hM4, ?_⟩; intro w5 hP5 hM5)
  have hB5 : w5.cell? ⟨Bx, 0, none⟩ = some (.pointer (some ⟨b, 0, none⟩)) := (hP5.cell (p := ⟨Bx, 0, none⟩) hBb).trans hB4
  have hG5 := A.put_grown hG4 hP5
  clear hM4 hB4 hG4 hP5 hq1
  have c65 : w5.cell? ⟨b, 65, none⟩ = some (.int .u64 (U (A.bs (q1 65)))) := by rw [A.c65 HO1.out]; exact hM5.atq 65 (by decide) .u64 rfl
  have h181 := hM5.att
  have hbl := hM5.lt
  have hbB := World.block_lt_of_cell? w5 _ hB5
  have e1 := A.one_at tn ht64
  have hwu : IntKind.u64.wrap (tn : Int) = (tn : Int) := by rw [IntKind.wrap_u64]; omega
  refine region_tail (n := 15) (by kernel_rfl) (by kernel_rfl) ?_
  simp only [List.take_succ_cons, List.take_zero, List.drop_succ_cons, List.drop_zero]
  repeat (first
    | quiet_step (fail))
  refine wpQuiet_nil ?_
  intro w6 hb6
  have hM6 := hM5.below hb6
  have hB6 := (hb6.cell (p := ⟨Bx, 0, none⟩) hbB).trans hB5
  have hG6 := A.below_step hG5 hb6
  clear c65 hbl hbB e1 hM5 hB5 hG5 hb6
  go_upto_region 14 with ((with_reducible refine wpl_store_mq rfl _ _ _ rfl ?_); refine ⟨b, 65, q1, c, _, _, (U (bAndn (A.bs (q1 65)) (B.one (tn : Int)))), .u64, rfl, rfl, by decide, rfl, A.size_u64A, hM6, ?_⟩; intro w7 hP7 hM7)
  have hB7 : w7.cell? ⟨Bx, 0, none⟩ = some (.pointer (some ⟨b, 0, none⟩)) := (hP7.cell (p := ⟨Bx, 0, none⟩) hBb).trans hB6
  have hG7 := A.put_grown hG6 hP7
  clear hM6 hB6 hG6 hP7 h181
  rw [show upd q1 65 (U (bAndn (A.bs (q1 65)) (B.one (tn : Int)))) = A.pocketT c q (tn : Int) from ET.out.symm] at hM7
  obtain ⟨q2, hq2⟩ : ∃ q2, A.pocketT c q (tn : Int) = q2 := ⟨_, rfl⟩
  rw [hq2] at hM7 HO2 HO3
  have HQ2 := Lib.hid hq2
  clear hq2
  have c65 : w7.cell? ⟨b, 65, none⟩ = some (.int .u64 (U (A.bs (q2 65)))) := by rw [A.c65 HO2.out]; exact hM7.atq 65 (by decide) .u64 rfl
  have h176 : w7.cell? ⟨b, 176, none⟩ = some (.int .i8 (F : Int)) := hM7.atm 0 _ rfl
  have hbl := hM7.lt
  have hbB := World.block_lt_of_cell? w7 _ hB7
  have e1 := A.one_at F hF64
  have hwu : IntKind.u64.wrap (F : Int) = (F : Int) := by rw [IntKind.wrap_u64]; omega
  refine region_tail (n := 16) (by kernel_rfl) (by kernel_rfl) ?_
  simp only [List.take_succ_cons, List.take_zero, List.drop_succ_cons, List.drop_zero]
  repeat (first
    | quiet_step (fail))
  refine wpQuiet_nil ?_
  intro w8 hb8
  have hM8 := hM7.below hb8
  have hB8 := (hb8.cell (p := ⟨Bx, 0, none⟩) hbB).trans hB7
  have hG8 := A.below_step hG7 hb8
  clear c65 hbl hbB e1 hM7 hB7 hG7 hb8
  go_upto_region 15 with ((with_reducible refine wpl_store_mq rfl _ _ _ rfl ?_); refine ⟨b, 65, q2, c, _, _, (U (bAndn (A.bs (q2 65)) (B.one (F : Int)))), .u64, rfl, rfl, by decide, rfl, A.size_u64A, hM8, ?_⟩; intro w9 hP9 hM9)
  have hB9 : w9.cell? ⟨Bx, 0, none⟩ = some (.pointer (some ⟨b, 0, none⟩)) := (hP9.cell (p := ⟨Bx, 0, none⟩) hBb).trans hB8
  have hG9 := A.put_grown hG8 hP9
  clear hM8 hB8 hG8 hP9 h176
  obtain ⟨q3, hq3⟩ : ∃ q3, upd q2 65 (U (bAndn (A.bs (q2 65)) (B.one (F : Int)))) = q3 := ⟨_, rfl⟩
  rw [hq3] at hM9 HO3
  cases hp : (p != 0)
  · cases hmf : A.mark c (F : Int)
    · have E := Lib.hid (show A.pocket c q ((F : Int), (G : Int), p, 0, false) (tn : Int) = A.unmark q2 (F : Int) by
        unfold A.pocket
        rw [if_neg (fun h => h.elim (fun h => h (by simpa using d1)) (fun h => h rfl)), if_neg (by simp), if_neg (fun h => h.elim (fun h => h (by simpa using hp)) (fun h => by rw [hmf] at h; cases h)), HQ2.out])
      have HMF := Lib.hid hmf
      clear hmf
      have h178 : w9.cell? ⟨b, 178, none⟩ = some (.int .u8 p) := hM9.atm 2 _ rfl
      have h176 : w9.cell? ⟨b, 176, none⟩ = some (.int .i8 (F : Int)) := hM9.atm 0 _ rfl
      have hbl := hM9.lt
      go_wp2_with (go_at_call 132; refine (marked_any c q3 _ _ b Bx F w9 hM9 hB9 HC.out hF64).mono ?_; rw [HMF.out]; rintro e w4 ⟨rfl, rfl⟩)
      first | refine bodyPost_end (results_none rfl _ _ _) rfl ?_ | refine bodyPost_ret (results_none rfl _ _ _) rfl ?_
      refine ⟨rfl, ⟨?_, hG9⟩⟩
      rw [E.out]
      unfold A.unmark
      rw [hq3]
      exact hM9
    · have E := Lib.hid (show A.pocket c q ((F : Int), (G : Int), p, 0, false) (tn : Int) = A.domark (A.unmark q2 (F : Int)) (G : Int) by
        unfold A.pocket
        rw [if_neg (fun h => h.elim (fun h => h (by simpa using d1)) (fun h => h rfl)), if_neg (by simp), if_pos (.inr hmf), HQ2.out])
      have HMF := Lib.hid hmf
      clear hmf
      have h178 : w9.cell? ⟨b, 178, none⟩ = some (.int .u8 p) := hM9.atm 2 _ rfl
      have h176 : w9.cell? ⟨b, 176, none⟩ = some (.int .i8 (F : Int)) := hM9.atm 0 _ rfl
      have hbl := hM9.lt
      go_upto_region 16 with (go_at_call 132; refine (marked_any c q3 _ _ b Bx F w9 hM9 hB9 HC.out hF64).mono ?_; rw [HMF.out]; rintro e w4 ⟨rfl, rfl⟩)
      clear h178 h176 hbl
      have c65 : w9.cell? ⟨b, 65, none⟩ = some (.int .u64 (U (A.bs (q3 65)))) := by rw [A.c65 HO3.out]; exact hM9.atq 65 (by decide) .u64 rfl
      have h177 : w9.cell? ⟨b, 177, none⟩ = some (.int .i8 (G : Int)) := hM9.atm 1 _ rfl
      have hbl := hM9.lt
      have hbB := World.block_lt_of_cell? w9 _ hB9
      have e1 := A.one_at G hG64
      have hwu : IntKind.u64.wrap (G : Int) = (G : Int) := by rw [IntKind.wrap_u64]; omega
      refine region_tail (n := 16) (by kernel_rfl) (by kernel_rfl) ?_
      simp only [List.take_succ_cons, List.take_zero, List.drop_succ_cons, List.drop_zero]
      repeat (first
        | quiet_step (fail))
      refine wpQuiet_nil ?_
      intro w10 hb10
      have hM10 := hM9.below hb10
      have hB10 := (hb10.cell (p := ⟨Bx, 0, none⟩) hbB).trans hB9
      have hG10 := A.below_step hG9 hb10
      clear c65 hbl hbB e1 hM9 hB9 hG9 hb10
      go_wp2_with ((with_reducible refine wpl_store_mq rfl _ _ _ rfl ?_); refine ⟨b, 65, q3, c, _, _, (U (bOr (A.bs (q3 65)) (B.one (G : Int)))), .u64, rfl, rfl, by decide, rfl, A.size_u64A, hM10, ?_⟩; intro w11 hP11 hM11)
      first | refine bodyPost_end (results_none rfl _ _ _) rfl ?_ | refine bodyPost_ret (results_none rfl _ _ _) rfl ?_
      refine ⟨rfl, ⟨?_, A.put_grown hG10 hP11⟩⟩
      rw [E.out]
      unfold A.domark A.unmark
      rw [hq3]
      exact hM11
  · have E := Lib.hid (show A.pocket c q ((F : Int), (G : Int), p, 0, false) (tn : Int) = A.domark (A.unmark q2 (F : Int)) (G : Int) by
      unfold A.pocket
      rw [if_neg (fun h => h.elim (fun h => h (by simpa using d1)) (fun h => h rfl)), if_neg (by simp), if_pos (.inl (by simpa using hp)), HQ2.out])
    have h178 : w9.cell? ⟨b, 178, none⟩ = some (.int .u8 p) := hM9.atm 2 _ rfl
    have h176 : w9.cell? ⟨b, 176, none⟩ = some (.int .i8 (F : Int)) := hM9.atm 0 _ rfl
    have hbl := hM9.lt
    go_upto_region 16 with fail
    clear h178 h176 hbl
    have c65 : w9.cell? ⟨b, 65, none⟩ = some (.int .u64 (U (A.bs (q3 65)))) := by rw [A.c65 HO3.out]; exact hM9.atq 65 (by decide) .u64 rfl
    have h177 : w9.cell? ⟨b, 177, none⟩ = some (.int .i8 (G : Int)) := hM9.atm 1 _ rfl
    have hbl := hM9.lt
    have hbB := World.block_lt_of_cell? w9 _ hB9
    have e1 := A.one_at G hG64
    have hwu : IntKind.u64.wrap (G : Int) = (G : Int) := by rw [IntKind.wrap_u64]; omega
    refine region_tail (n := 16) (by kernel_rfl) (by kernel_rfl) ?_
    simp only [List.take_succ_cons, List.take_zero, List.drop_succ_cons, List.drop_zero]
    repeat (first
      | quiet_step (fail))
    refine wpQuiet_nil ?_
    intro w10 hb10
    have hM10 := hM9.below hb10
    have hB10 := (hb10.cell (p := ⟨Bx, 0, none⟩) hbB).trans hB9
    have hG10 := A.below_step hG9 hb10
    clear c65 hbl hbB e1 hM9 hB9 hG9 hb10
    go_wp2_with ((with_reducible refine wpl_store_mq rfl _ _ _ rfl ?_); refine ⟨b, 65, q3, c, _, _, (U (bOr (A.bs (q3 65)) (B.one (G : Int)))), .u64, rfl, rfl, by decide, rfl, A.size_u64A, hM10, ?_⟩; intro w11 hP11 hM11)
    first | refine bodyPost_end (results_none rfl _ _ _) rfl ?_ | refine bodyPost_ret (results_none rfl _ _ _) rfl ?_
    refine ⟨rfl, ⟨?_, A.put_grown hG10 hP11⟩⟩
    rw [E.out]
    unfold A.domark A.unmark
    rw [hq3]
    exact hM11
set_option maxRecDepth 100000 in
set_option maxHeartbeats 1000000 in
theorem mpocket_pttf (q c : Nat → Int) (F G : Nat) (p : Int) (t : Int) (b : Nat) (w : World) (hM : A.MvAt w b q c ((F : Int), (G : Int), p, 0, false) t) (hF64 : F < 64) (hG64 : G < 64) (hc : PosOk c) (hq : PosOk q) (d1 : (q 0 != 2) = false) (tn : Nat) (ht64 : tn < 64) (ht : t = (tn : Int)) (hmk : A.mark c (tn : Int) = true) (hne : (c (1 + tn) != 0) = false) :
    Calls Tryz.prog 63 #[.pointer (some ⟨b, 0, none⟩)] w fun e w' => e = .returned (.tuple #[]) ∧ A.Step b (A.pocket c q ((F : Int), (G : Int), p, 0, false) t) c ((F : Int), (G : Int), p, 0, false) t w w' := by
  have ET := Lib.hid (show A.pocketT c q t = A.unmark (A.add q (q 78) (P.kind (c (1 + tn)))) (tn : Int) by
    subst ht
    unfold A.pocketT
    rw [if_pos (by omega)]
    unfold A.takenKind
    rw [Int.toNat_natCast, if_neg (fun h => h.2 (by simpa using hne))])
  have hbT := pos_bd hc tn ht64
  have HKi : Hid (∀ W, Calls Tryz.prog 70 #[.int .u8 (c (1 + tn))] W fun e w' => e = .returned (.int .u8 (P.kind (c (1 + tn)))) ∧ Below W.heap.size W w') := Lib.hid (fun W => A.kind_b _ W hbT.1 hbT.2)
  have h78z := (pos_u8 hq (i := 78) (by decide) rfl).1
  have HAd : Hid (∀ W, Calls Tryz.prog 133 #[.agg (posC q), .int .u8 (q 78), .int .u8 (P.kind (c (1 + tn)))] W fun e w' => e = .returned (.agg (posC (A.add q (q 78) (P.kind (c (1 + tn)))))) ∧ Below W.heap.size W w') := Lib.hid (fun W => dadd_any q (q 78) _ W hq h78z)
  have HO1 := Lib.hid (A.ok_add hq (q 78) (P.kind (c (1 + tn))) h78z)
  have ht63 : (tn : Int) < 64 := by omega
  have dt : decide (0 ≤ t) = true := by rw [ht]; simp
  have HO2 := Lib.hid (A.ok_pocketT hq c t)
  have HO3 := Lib.hid (A.ok_mark HO2.out (bAndn (A.bs (A.pocketT c q t 65)) (B.one (F : Int))))
  have hp31 := Tryz.underlying31
  have HC := Lib.hid hc
  have HQ0 := Lib.hid hq
  have hwF : IntKind.i64.wrap (F : Int) = (F : Int) := by rw [IntKind.wrap_i64]; omega
  have hwF' : wrap64 (F : Int) = (F : Int) := by simp only [wrap64]; omega
  have hwG : IntKind.i64.wrap (G : Int) = (G : Int) := by rw [IntKind.wrap_i64]; omega
  have hwG' : wrap64 (G : Int) = (G : Int) := by simp only [wrap64]; omega
  have HMK := Lib.hid hmk
  have hM1 := hM.alloc (.cells #[.pointer (some ⟨b, 0, none⟩)] 89)
  have hB1 : (w.alloc (.cells #[.pointer (some ⟨b, 0, none⟩)] 89)).cell? ⟨w.heap.size, 0, none⟩ = some (.pointer (some ⟨b, 0, none⟩)) := by
    rw [(RowAt.new w #[.pointer (some ⟨b, 0, none⟩)] 89).cell]; rfl
  have hG1 : w.grownBy (w.alloc (.cells #[.pointer (some ⟨b, 0, none⟩)] 89)) (some b) := A.below_step (World.grownBy.refl w _) ((Below.refl _ _).alloc (Nat.le_refl _) _)
  have hbl := hM.lt
  obtain ⟨Bx, hBe⟩ : ∃ Bx, w.heap.size = Bx := ⟨_, rfl⟩
  have hBb : Bx ≠ b := by omega
  clear hc hq hmk hbT h78z 
  go_enter Tryz.func63, Tryz.ntmps63
  go_upto_region 1 with fail
  obtain ⟨w1, hW1⟩ : ∃ w1, w.alloc (.cells #[.pointer (some ⟨b, 0, none⟩)] 89) = w1 := ⟨_, rfl⟩
  try rw [hBe] at hB1
  try rw [hBe]
  rw [hW1] at hM1 hB1 hG1 ⊢
  clear hM hW1 hbl
  have h0 : w1.cell? ⟨b, 0, none⟩ = some (.int .u8 (q 0)) := hM1.atq 0 (by decide) .u8 rfl
  have h179 : w1.cell? ⟨b, 179, none⟩ = some (.int .u8 0) := hM1.atm 3 _ rfl
  have h180 : w1.cell? ⟨b, 180, none⟩ = some (.bool false) := hM1.atm 4 _ rfl
  have h181 := hM1.att
  have hbl := hM1.lt
  have hbB := World.block_lt_of_cell? w1 _ hB1
  go_upto_region 9 with fail
  clear h0 h179 h180
  have hbt : w1.cell? ⟨b, 89 + tn, none⟩ = some (.int .u8 (c (1 + tn))) := by
    have := hM1.atc (1 + tn) (by omega) .u8 (A.pk_sq (by omega))
    rwa [show 88 + (1 + tn) = 89 + tn by omega] at this
  subst ht
  refine region_below (by kernel_rfl) (by kernel_rfl) ?_
  repeat (go_big_quiet_step (first
    | (go_at_call 70; exact quiet_below (HKi.out _))))
  refine wpQuiet_nil ?_
  intro w2 hb2
  have hM2 := hM1.below hb2
  have hB2 := (hb2.cell (p := ⟨Bx, 0, none⟩) hbB).trans hB1
  have hG2 := A.below_step hG1 hb2
  clear hM1 hB1 hG1 hb2 h181 hbl hbB hbt
  have h181 := hM2.att
  have hbl := hM2.lt
  have hbB := World.block_lt_of_cell? w2 _ hB2
  have hbt : w2.cell? ⟨b, 89 + tn, none⟩ = some (.int .u8 (c (1 + tn))) := by
    have := hM2.atc (1 + tn) (by omega) .u8 (A.pk_sq (by omega))
    rwa [show 88 + (1 + tn) = 89 + tn by omega] at this
  go_upto_region 10 with fail
  refine region_below (by kernel_rfl) (by kernel_rfl) ?_
  repeat (go_big_quiet_step (first
    | (go_at_call 132; exact quiet_below (marked_grow tn hM2 hB2 HC.out ht64 HMK.out))))
  refine wpQuiet_nil ?_
  intro w3 hb3
  have hM3 := hM2.below hb3
  have hB3 := (hb3.cell (p := ⟨Bx, 0, none⟩) hbB).trans hB2
  have hG3 := A.below_step hG2 hb3
  clear hM2 hB2 hG2 hb3 h181 hbl hbB hbt
  have h78 : w3.cell? ⟨b, 78, none⟩ = some (.int .u8 (q 78)) := hM3.atq 78 (by decide) .u8 rfl
  have hrq := hM3.rq
  have hbl := hM3.lt
  have hbB := World.block_lt_of_cell? w3 _ hB3
  go_upto_region 12 with fail
  refine region_tail (n := 14) (by kernel_rfl) (by kernel_rfl) ?_
  simp only [List.take_succ_cons, List.take_zero, List.drop_succ_cons, List.drop_zero]
  repeat (first
    | (refine BigFrame.wpQuiet_want rfl (fun Kq hKq => quiet_load_mid 31 _ rfl hp31 rfl ⟨b, 0, posL q, rfl, hrq, A.posL_info _, hKq _ ?_⟩); simp only [Act.put, List.setIfInBounds_toArray, List.set_cons_succ, List.set_cons_zero])
    | quiet_step ((go_at_call 133; exact quiet_below (HAd.out _))))
  refine wpQuiet_nil ?_
  intro w4 hb4
  have hM4 := hM3.below hb4
  have hB4 := (hb4.cell (p := ⟨Bx, 0, none⟩) hbB).trans hB3
  have hG4 := A.below_step hG3 hb4
  clear hM3 hB3 hG3 hb4 h78 hrq hbl hbB
  obtain ⟨q1, hq1⟩ : ∃ q1, A.add q (q 78) (P.kind (c (1 + tn))) = q1 := ⟨_, rfl⟩
  rw [hq1] at HO1 ET
  try rw [hq1]
  go_upto_region 13 with ((with_reducible refine wpl_store_mp rfl _ _ rfl ?_); refine ⟨b, q, q1, c, _, _, rfl, rfl, hM4, ?_⟩; intro w5 hP5 hM5)
  have hB5 : w5.cell? ⟨Bx, 0, none⟩ = some (.pointer (some ⟨b, 0, none⟩)) := (hP5.cell (p := ⟨Bx, 0, none⟩) hBb).trans hB4
  have hG5 := A.put_grown hG4 hP5
  clear hM4 hB4 hG4 hP5 hq1
  have c65 : w5.cell? ⟨b, 65, none⟩ = some (.int .u64 (U (A.bs (q1 65)))) := by rw [A.c65 HO1.out]; exact hM5.atq 65 (by decide) .u64 rfl
  have h181 := hM5.att
  have hbl := hM5.lt
  have hbB := World.block_lt_of_cell? w5 _ hB5
  have e1 := A.one_at tn ht64
  have hwu : IntKind.u64.wrap (tn : Int) = (tn : Int) := by rw [IntKind.wrap_u64]; omega
  refine region_tail (n := 15) (by kernel_rfl) (by kernel_rfl) ?_
  simp only [List.take_succ_cons, List.take_zero, List.drop_succ_cons, List.drop_zero]
  repeat (first
    | quiet_step (fail))
  refine wpQuiet_nil ?_
  intro w6 hb6
  have hM6 := hM5.below hb6
  have hB6 := (hb6.cell (p := ⟨Bx, 0, none⟩) hbB).trans hB5
  have hG6 := A.below_step hG5 hb6
  clear c65 hbl hbB e1 hM5 hB5 hG5 hb6
  go_upto_region 14 with ((with_reducible refine wpl_store_mq rfl _ _ _ rfl ?_); refine ⟨b, 65, q1, c, _, _, (U (bAndn (A.bs (q1 65)) (B.one (tn : Int)))), .u64, rfl, rfl, by decide, rfl, A.size_u64A, hM6, ?_⟩; intro w7 hP7 hM7)
  have hB7 : w7.cell? ⟨Bx, 0, none⟩ = some (.pointer (some ⟨b, 0, none⟩)) := (hP7.cell (p := ⟨Bx, 0, none⟩) hBb).trans hB6
  have hG7 := A.put_grown hG6 hP7
  clear hM6 hB6 hG6 hP7 h181
  rw [show upd q1 65 (U (bAndn (A.bs (q1 65)) (B.one (tn : Int)))) = A.pocketT c q (tn : Int) from ET.out.symm] at hM7
  obtain ⟨q2, hq2⟩ : ∃ q2, A.pocketT c q (tn : Int) = q2 := ⟨_, rfl⟩
  rw [hq2] at hM7 HO2 HO3
  have HQ2 := Lib.hid hq2
  clear hq2
  have c65 : w7.cell? ⟨b, 65, none⟩ = some (.int .u64 (U (A.bs (q2 65)))) := by rw [A.c65 HO2.out]; exact hM7.atq 65 (by decide) .u64 rfl
  have h176 : w7.cell? ⟨b, 176, none⟩ = some (.int .i8 (F : Int)) := hM7.atm 0 _ rfl
  have hbl := hM7.lt
  have hbB := World.block_lt_of_cell? w7 _ hB7
  have e1 := A.one_at F hF64
  have hwu : IntKind.u64.wrap (F : Int) = (F : Int) := by rw [IntKind.wrap_u64]; omega
  refine region_tail (n := 16) (by kernel_rfl) (by kernel_rfl) ?_
  simp only [List.take_succ_cons, List.take_zero, List.drop_succ_cons, List.drop_zero]
  repeat (first
    | quiet_step (fail))
  refine wpQuiet_nil ?_
  intro w8 hb8
  have hM8 := hM7.below hb8
  have hB8 := (hb8.cell (p := ⟨Bx, 0, none⟩) hbB).trans hB7
  have hG8 := A.below_step hG7 hb8
  clear c65 hbl hbB e1 hM7 hB7 hG7 hb8
  go_upto_region 15 with ((with_reducible refine wpl_store_mq rfl _ _ _ rfl ?_); refine ⟨b, 65, q2, c, _, _, (U (bAndn (A.bs (q2 65)) (B.one (F : Int)))), .u64, rfl, rfl, by decide, rfl, A.size_u64A, hM8, ?_⟩; intro w9 hP9 hM9)
  have hB9 : w9.cell? ⟨Bx, 0, none⟩ = some (.pointer (some ⟨b, 0, none⟩)) := (hP9.cell (p := ⟨Bx, 0, none⟩) hBb).trans hB8
  have hG9 := A.put_grown hG8 hP9
  clear hM8 hB8 hG8 hP9 h176
  obtain ⟨q3, hq3⟩ : ∃ q3, upd q2 65 (U (bAndn (A.bs (q2 65)) (B.one (F : Int)))) = q3 := ⟨_, rfl⟩
  rw [hq3] at hM9 HO3
  cases hp : (p != 0)
  · cases hmf : A.mark c (F : Int)
    · have E := Lib.hid (show A.pocket c q ((F : Int), (G : Int), p, 0, false) (tn : Int) = A.unmark q2 (F : Int) by
        unfold A.pocket
        rw [if_neg (fun h => h.elim (fun h => h (by simpa using d1)) (fun h => h rfl)), if_neg (by simp), if_neg (fun h => h.elim (fun h => h (by simpa using hp)) (fun h => by rw [hmf] at h; cases h)), HQ2.out])
      have HMF := Lib.hid hmf
      clear hmf
      have h178 : w9.cell? ⟨b, 178, none⟩ = some (.int .u8 p) := hM9.atm 2 _ rfl
      have h176 : w9.cell? ⟨b, 176, none⟩ = some (.int .i8 (F : Int)) := hM9.atm 0 _ rfl
      have hbl := hM9.lt
      go_wp2_with (go_at_call 132; refine (marked_any c q3 _ _ b Bx F w9 hM9 hB9 HC.out hF64).mono ?_; rw [HMF.out]; rintro e w4 ⟨rfl, rfl⟩)
      first | refine bodyPost_end (results_none rfl _ _ _) rfl ?_ | refine bodyPost_ret (results_none rfl _ _ _) rfl ?_
      refine ⟨rfl, ⟨?_, hG9⟩⟩
      rw [E.out]
      unfold A.unmark
      rw [hq3]
      exact hM9
    · have E := Lib.hid (show A.pocket c q ((F : Int), (G : Int), p, 0, false) (tn : Int) = A.domark (A.unmark q2 (F : Int)) (G : Int) by
        unfold A.pocket
        rw [if_neg (fun h => h.elim (fun h => h (by simpa using d1)) (fun h => h rfl)), if_neg (by simp), if_pos (.inr hmf), HQ2.out])
      have HMF := Lib.hid hmf
      clear hmf
      have h178 : w9.cell? ⟨b, 178, none⟩ = some (.int .u8 p) := hM9.atm 2 _ rfl
      have h176 : w9.cell? ⟨b, 176, none⟩ = some (.int .i8 (F : Int)) := hM9.atm 0 _ rfl
      have hbl := hM9.lt
      go_upto_region 16 with (go_at_call 132; refine (marked_any c q3 _ _ b Bx F w9 hM9 hB9 HC.out hF64).mono ?_; rw [HMF.out]; rintro e w4 ⟨rfl, rfl⟩)
      clear h178 h176 hbl
      have c65 : w9.cell? ⟨b, 65, none⟩ = some (.int .u64 (U (A.bs (q3 65)))) := by rw [A.c65 HO3.out]; exact hM9.atq 65 (by decide) .u64 rfl
      have h177 : w9.cell? ⟨b, 177, none⟩ = some (.int .i8 (G : Int)) := hM9.atm 1 _ rfl
      have hbl := hM9.lt
      have hbB := World.block_lt_of_cell? w9 _ hB9
      have e1 := A.one_at G hG64
      have hwu : IntKind.u64.wrap (G : Int) = (G : Int) := by rw [IntKind.wrap_u64]; omega
      refine region_tail (n := 16) (by kernel_rfl) (by kernel_rfl) ?_
      simp only [List.take_succ_cons, List.take_zero, List.drop_succ_cons, List.drop_zero]
      repeat (first
        | quiet_step (fail))
      refine wpQuiet_nil ?_
      intro w10 hb10
      have hM10 := hM9.below hb10
      have hB10 := (hb10.cell (p := ⟨Bx, 0, none⟩) hbB).trans hB9
      have hG10 := A.below_step hG9 hb10
      clear c65 hbl hbB e1 hM9 hB9 hG9 hb10
      go_wp2_with ((with_reducible refine wpl_store_mq rfl _ _ _ rfl ?_); refine ⟨b, 65, q3, c, _, _, (U (bOr (A.bs (q3 65)) (B.one (G : Int)))), .u64, rfl, rfl, by decide, rfl, A.size_u64A, hM10, ?_⟩; intro w11 hP11 hM11)
      first | refine bodyPost_end (results_none rfl _ _ _) rfl ?_ | refine bodyPost_ret (results_none rfl _ _ _) rfl ?_
      refine ⟨rfl, ⟨?_, A.put_grown hG10 hP11⟩⟩
      rw [E.out]
      unfold A.domark A.unmark
      rw [hq3]
      exact hM11
  · have E := Lib.hid (show A.pocket c q ((F : Int), (G : Int), p, 0, false) (tn : Int) = A.domark (A.unmark q2 (F : Int)) (G : Int) by
      unfold A.pocket
      rw [if_neg (fun h => h.elim (fun h => h (by simpa using d1)) (fun h => h rfl)), if_neg (by simp), if_pos (.inl (by simpa using hp)), HQ2.out])
    have h178 : w9.cell? ⟨b, 178, none⟩ = some (.int .u8 p) := hM9.atm 2 _ rfl
    have h176 : w9.cell? ⟨b, 176, none⟩ = some (.int .i8 (F : Int)) := hM9.atm 0 _ rfl
    have hbl := hM9.lt
    go_upto_region 16 with fail
    clear h178 h176 hbl
    have c65 : w9.cell? ⟨b, 65, none⟩ = some (.int .u64 (U (A.bs (q3 65)))) := by rw [A.c65 HO3.out]; exact hM9.atq 65 (by decide) .u64 rfl
    have h177 : w9.cell? ⟨b, 177, none⟩ = some (.int .i8 (G : Int)) := hM9.atm 1 _ rfl
    have hbl := hM9.lt
    have hbB := World.block_lt_of_cell? w9 _ hB9
    have e1 := A.one_at G hG64
    have hwu : IntKind.u64.wrap (G : Int) = (G : Int) := by rw [IntKind.wrap_u64]; omega
    refine region_tail (n := 16) (by kernel_rfl) (by kernel_rfl) ?_
    simp only [List.take_succ_cons, List.take_zero, List.drop_succ_cons, List.drop_zero]
    repeat (first
      | quiet_step (fail))
    refine wpQuiet_nil ?_
    intro w10 hb10
    have hM10 := hM9.below hb10
    have hB10 := (hb10.cell (p := ⟨Bx, 0, none⟩) hbB).trans hB9
    have hG10 := A.below_step hG9 hb10
    clear c65 hbl hbB e1 hM9 hB9 hG9 hb10
    go_wp2_with ((with_reducible refine wpl_store_mq rfl _ _ _ rfl ?_); refine ⟨b, 65, q3, c, _, _, (U (bOr (A.bs (q3 65)) (B.one (G : Int)))), .u64, rfl, rfl, by decide, rfl, A.size_u64A, hM10, ?_⟩; intro w11 hP11 hM11)
    first | refine bodyPost_end (results_none rfl _ _ _) rfl ?_ | refine bodyPost_ret (results_none rfl _ _ _) rfl ?_
    refine ⟨rfl, ⟨?_, A.put_grown hG10 hP11⟩⟩
    rw [E.out]
    unfold A.domark A.unmark
    rw [hq3]
    exact hM11
set_option maxRecDepth 100000 in
set_option maxHeartbeats 1000000 in
theorem mpocket_pttt (q c : Nat → Int) (F G : Nat) (p : Int) (t : Int) (b : Nat) (w : World) (hM : A.MvAt w b q c ((F : Int), (G : Int), p, 0, false) t) (hF64 : F < 64) (hG64 : G < 64) (hc : PosOk c) (hq : PosOk q) (d1 : (q 0 != 2) = false) (tn : Nat) (ht64 : tn < 64) (ht : t = (tn : Int)) (hmk : A.mark c (tn : Int) = true) (hne : (c (1 + tn) != 0) = true) :
    Calls Tryz.prog 63 #[.pointer (some ⟨b, 0, none⟩)] w fun e w' => e = .returned (.tuple #[]) ∧ A.Step b (A.pocket c q ((F : Int), (G : Int), p, 0, false) t) c ((F : Int), (G : Int), p, 0, false) t w w' := by
  have ET := Lib.hid (show A.pocketT c q t = A.unmark (A.add q (q 78) (1)) (tn : Int) by
    subst ht
    unfold A.pocketT
    rw [if_pos (by omega)]
    unfold A.takenKind
    rw [Int.toNat_natCast, if_pos ⟨hmk, by simpa using hne⟩])
  have hbT := pos_bd hc tn ht64
  have HKi : Hid (∀ W, Calls Tryz.prog 70 #[.int .u8 (c (1 + tn))] W fun e w' => e = .returned (.int .u8 (P.kind (c (1 + tn)))) ∧ Below W.heap.size W w') := Lib.hid (fun W => A.kind_b _ W hbT.1 hbT.2)
  have h78z := (pos_u8 hq (i := 78) (by decide) rfl).1
  have HAd : Hid (∀ W, Calls Tryz.prog 133 #[.agg (posC q), .int .u8 (q 78), .int .u8 (1)] W fun e w' => e = .returned (.agg (posC (A.add q (q 78) (1)))) ∧ Below W.heap.size W w') := Lib.hid (fun W => dadd_any q (q 78) _ W hq h78z)
  have HO1 := Lib.hid (A.ok_add hq (q 78) (1) h78z)
  have ht63 : (tn : Int) < 64 := by omega
  have dt : decide (0 ≤ t) = true := by rw [ht]; simp
  have HO2 := Lib.hid (A.ok_pocketT hq c t)
  have HO3 := Lib.hid (A.ok_mark HO2.out (bAndn (A.bs (A.pocketT c q t 65)) (B.one (F : Int))))
  have hp31 := Tryz.underlying31
  have HC := Lib.hid hc
  have HQ0 := Lib.hid hq
  have hwF : IntKind.i64.wrap (F : Int) = (F : Int) := by rw [IntKind.wrap_i64]; omega
  have hwF' : wrap64 (F : Int) = (F : Int) := by simp only [wrap64]; omega
  have hwG : IntKind.i64.wrap (G : Int) = (G : Int) := by rw [IntKind.wrap_i64]; omega
  have hwG' : wrap64 (G : Int) = (G : Int) := by simp only [wrap64]; omega
  have HMK := Lib.hid hmk
  have hM1 := hM.alloc (.cells #[.pointer (some ⟨b, 0, none⟩)] 89)
  have hB1 : (w.alloc (.cells #[.pointer (some ⟨b, 0, none⟩)] 89)).cell? ⟨w.heap.size, 0, none⟩ = some (.pointer (some ⟨b, 0, none⟩)) := by
    rw [(RowAt.new w #[.pointer (some ⟨b, 0, none⟩)] 89).cell]; rfl
  have hG1 : w.grownBy (w.alloc (.cells #[.pointer (some ⟨b, 0, none⟩)] 89)) (some b) := A.below_step (World.grownBy.refl w _) ((Below.refl _ _).alloc (Nat.le_refl _) _)
  have hbl := hM.lt
  obtain ⟨Bx, hBe⟩ : ∃ Bx, w.heap.size = Bx := ⟨_, rfl⟩
  have hBb : Bx ≠ b := by omega
  clear hc hq hmk hbT h78z 
  go_enter Tryz.func63, Tryz.ntmps63
  go_upto_region 1 with fail
  obtain ⟨w1, hW1⟩ : ∃ w1, w.alloc (.cells #[.pointer (some ⟨b, 0, none⟩)] 89) = w1 := ⟨_, rfl⟩
  try rw [hBe] at hB1
  try rw [hBe]
  rw [hW1] at hM1 hB1 hG1 ⊢
  clear hM hW1 hbl
  have h0 : w1.cell? ⟨b, 0, none⟩ = some (.int .u8 (q 0)) := hM1.atq 0 (by decide) .u8 rfl
  have h179 : w1.cell? ⟨b, 179, none⟩ = some (.int .u8 0) := hM1.atm 3 _ rfl
  have h180 : w1.cell? ⟨b, 180, none⟩ = some (.bool false) := hM1.atm 4 _ rfl
  have h181 := hM1.att
  have hbl := hM1.lt
  have hbB := World.block_lt_of_cell? w1 _ hB1
  go_upto_region 9 with fail
  clear h0 h179 h180
  have hbt : w1.cell? ⟨b, 89 + tn, none⟩ = some (.int .u8 (c (1 + tn))) := by
    have := hM1.atc (1 + tn) (by omega) .u8 (A.pk_sq (by omega))
    rwa [show 88 + (1 + tn) = 89 + tn by omega] at this
  subst ht
  refine region_below (by kernel_rfl) (by kernel_rfl) ?_
  repeat (go_big_quiet_step (first
    | (go_at_call 70; exact quiet_below (HKi.out _))))
  refine wpQuiet_nil ?_
  intro w2 hb2
  have hM2 := hM1.below hb2
  have hB2 := (hb2.cell (p := ⟨Bx, 0, none⟩) hbB).trans hB1
  have hG2 := A.below_step hG1 hb2
  clear hM1 hB1 hG1 hb2 h181 hbl hbB hbt
  have h181 := hM2.att
  have hbl := hM2.lt
  have hbB := World.block_lt_of_cell? w2 _ hB2
  have hbt : w2.cell? ⟨b, 89 + tn, none⟩ = some (.int .u8 (c (1 + tn))) := by
    have := hM2.atc (1 + tn) (by omega) .u8 (A.pk_sq (by omega))
    rwa [show 88 + (1 + tn) = 89 + tn by omega] at this
  go_upto_region 10 with fail
  refine region_below (by kernel_rfl) (by kernel_rfl) ?_
  repeat (go_big_quiet_step (first
    | (go_at_call 132; exact quiet_below (marked_grow tn hM2 hB2 HC.out ht64 HMK.out))))
  refine wpQuiet_nil ?_
  intro w3 hb3
  have hM3 := hM2.below hb3
  have hB3 := (hb3.cell (p := ⟨Bx, 0, none⟩) hbB).trans hB2
  have hG3 := A.below_step hG2 hb3
  clear hM2 hB2 hG2 hb3 h181 hbl hbB hbt
  have h78 : w3.cell? ⟨b, 78, none⟩ = some (.int .u8 (q 78)) := hM3.atq 78 (by decide) .u8 rfl
  have hrq := hM3.rq
  have hbl := hM3.lt
  have hbB := World.block_lt_of_cell? w3 _ hB3
  go_upto_region 12 with fail
  refine region_tail (n := 14) (by kernel_rfl) (by kernel_rfl) ?_
  simp only [List.take_succ_cons, List.take_zero, List.drop_succ_cons, List.drop_zero]
  repeat (first
    | (refine BigFrame.wpQuiet_want rfl (fun Kq hKq => quiet_load_mid 31 _ rfl hp31 rfl ⟨b, 0, posL q, rfl, hrq, A.posL_info _, hKq _ ?_⟩); simp only [Act.put, List.setIfInBounds_toArray, List.set_cons_succ, List.set_cons_zero])
    | quiet_step ((go_at_call 133; exact quiet_below (HAd.out _))))
  refine wpQuiet_nil ?_
  intro w4 hb4
  have hM4 := hM3.below hb4
  have hB4 := (hb4.cell (p := ⟨Bx, 0, none⟩) hbB).trans hB3
  have hG4 := A.below_step hG3 hb4
  clear hM3 hB3 hG3 hb4 h78 hrq hbl hbB
  obtain ⟨q1, hq1⟩ : ∃ q1, A.add q (q 78) (1) = q1 := ⟨_, rfl⟩
  rw [hq1] at HO1 ET
  try rw [hq1]
  go_upto_region 13 with ((with_reducible refine wpl_store_mp rfl _ _ rfl ?_); refine ⟨b, q, q1, c, _, _, rfl, rfl, hM4, ?_⟩; intro w5 hP5 hM5)
  have hB5 : w5.cell? ⟨Bx, 0, none⟩ = some (.pointer (some ⟨b, 0, none⟩)) := (hP5.cell (p := ⟨Bx, 0, none⟩) hBb).trans hB4
  have hG5 := A.put_grown hG4 hP5
  clear hM4 hB4 hG4 hP5 hq1
  have c65 : w5.cell? ⟨b, 65, none⟩ = some (.int .u64 (U (A.bs (q1 65)))) := by rw [A.c65 HO1.out]; exact hM5.atq 65 (by decide) .u64 rfl
  have h181 := hM5.att
  have hbl := hM5.lt
  have hbB := World.block_lt_of_cell? w5 _ hB5
  have e1 := A.one_at tn ht64
  have hwu : IntKind.u64.wrap (tn : Int) = (tn : Int) := by rw [IntKind.wrap_u64]; omega
  refine region_tail (n := 15) (by kernel_rfl) (by kernel_rfl) ?_
  simp only [List.take_succ_cons, List.take_zero, List.drop_succ_cons, List.drop_zero]
  repeat (first
    | quiet_step (fail))
  refine wpQuiet_nil ?_
  intro w6 hb6
  have hM6 := hM5.below hb6
  have hB6 := (hb6.cell (p := ⟨Bx, 0, none⟩) hbB).trans hB5
  have hG6 := A.below_step hG5 hb6
  clear c65 hbl hbB e1 hM5 hB5 hG5 hb6
  go_upto_region 14 with ((with_reducible refine wpl_store_mq rfl _ _ _ rfl ?_); refine ⟨b, 65, q1, c, _, _, (U (bAndn (A.bs (q1 65)) (B.one (tn : Int)))), .u64, rfl, rfl, by decide, rfl, A.size_u64A, hM6, ?_⟩; intro w7 hP7 hM7)
  have hB7 : w7.cell? ⟨Bx, 0, none⟩ = some (.pointer (some ⟨b, 0, none⟩)) := (hP7.cell (p := ⟨Bx, 0, none⟩) hBb).trans hB6
  have hG7 := A.put_grown hG6 hP7
  clear hM6 hB6 hG6 hP7 h181
  rw [show upd q1 65 (U (bAndn (A.bs (q1 65)) (B.one (tn : Int)))) = A.pocketT c q (tn : Int) from ET.out.symm] at hM7
  obtain ⟨q2, hq2⟩ : ∃ q2, A.pocketT c q (tn : Int) = q2 := ⟨_, rfl⟩
  rw [hq2] at hM7 HO2 HO3
  have HQ2 := Lib.hid hq2
  clear hq2
  have c65 : w7.cell? ⟨b, 65, none⟩ = some (.int .u64 (U (A.bs (q2 65)))) := by rw [A.c65 HO2.out]; exact hM7.atq 65 (by decide) .u64 rfl
  have h176 : w7.cell? ⟨b, 176, none⟩ = some (.int .i8 (F : Int)) := hM7.atm 0 _ rfl
  have hbl := hM7.lt
  have hbB := World.block_lt_of_cell? w7 _ hB7
  have e1 := A.one_at F hF64
  have hwu : IntKind.u64.wrap (F : Int) = (F : Int) := by rw [IntKind.wrap_u64]; omega
  refine region_tail (n := 16) (by kernel_rfl) (by kernel_rfl) ?_
  simp only [List.take_succ_cons, List.take_zero, List.drop_succ_cons, List.drop_zero]
  repeat (first
    | quiet_step (fail))
  refine wpQuiet_nil ?_
  intro w8 hb8
  have hM8 := hM7.below hb8
  have hB8 := (hb8.cell (p := ⟨Bx, 0, none⟩) hbB).trans hB7
  have hG8 := A.below_step hG7 hb8
  clear c65 hbl hbB e1 hM7 hB7 hG7 hb8
  go_upto_region 15 with ((with_reducible refine wpl_store_mq rfl _ _ _ rfl ?_); refine ⟨b, 65, q2, c, _, _, (U (bAndn (A.bs (q2 65)) (B.one (F : Int)))), .u64, rfl, rfl, by decide, rfl, A.size_u64A, hM8, ?_⟩; intro w9 hP9 hM9)
  have hB9 : w9.cell? ⟨Bx, 0, none⟩ = some (.pointer (some ⟨b, 0, none⟩)) := (hP9.cell (p := ⟨Bx, 0, none⟩) hBb).trans hB8
  have hG9 := A.put_grown hG8 hP9
  clear hM8 hB8 hG8 hP9 h176
  obtain ⟨q3, hq3⟩ : ∃ q3, upd q2 65 (U (bAndn (A.bs (q2 65)) (B.one (F : Int)))) = q3 := ⟨_, rfl⟩
  rw [hq3] at hM9 HO3
  cases hp : (p != 0)
  · cases hmf : A.mark c (F : Int)
    · have E := Lib.hid (show A.pocket c q ((F : Int), (G : Int), p, 0, false) (tn : Int) = A.unmark q2 (F : Int) by
        unfold A.pocket
        rw [if_neg (fun h => h.elim (fun h => h (by simpa using d1)) (fun h => h rfl)), if_neg (by simp), if_neg (fun h => h.elim (fun h => h (by simpa using hp)) (fun h => by rw [hmf] at h; cases h)), HQ2.out])
      have HMF := Lib.hid hmf
      clear hmf
      have h178 : w9.cell? ⟨b, 178, none⟩ = some (.int .u8 p) := hM9.atm 2 _ rfl
      have h176 : w9.cell? ⟨b, 176, none⟩ = some (.int .i8 (F : Int)) := hM9.atm 0 _ rfl
      have hbl := hM9.lt
      go_wp2_with (go_at_call 132; refine (marked_any c q3 _ _ b Bx F w9 hM9 hB9 HC.out hF64).mono ?_; rw [HMF.out]; rintro e w4 ⟨rfl, rfl⟩)
      first | refine bodyPost_end (results_none rfl _ _ _) rfl ?_ | refine bodyPost_ret (results_none rfl _ _ _) rfl ?_
      refine ⟨rfl, ⟨?_, hG9⟩⟩
      rw [E.out]
      unfold A.unmark
      rw [hq3]
      exact hM9
    · have E := Lib.hid (show A.pocket c q ((F : Int), (G : Int), p, 0, false) (tn : Int) = A.domark (A.unmark q2 (F : Int)) (G : Int) by
        unfold A.pocket
        rw [if_neg (fun h => h.elim (fun h => h (by simpa using d1)) (fun h => h rfl)), if_neg (by simp), if_pos (.inr hmf), HQ2.out])
      have HMF := Lib.hid hmf
      clear hmf
      have h178 : w9.cell? ⟨b, 178, none⟩ = some (.int .u8 p) := hM9.atm 2 _ rfl
      have h176 : w9.cell? ⟨b, 176, none⟩ = some (.int .i8 (F : Int)) := hM9.atm 0 _ rfl
      have hbl := hM9.lt
      go_upto_region 16 with (go_at_call 132; refine (marked_any c q3 _ _ b Bx F w9 hM9 hB9 HC.out hF64).mono ?_; rw [HMF.out]; rintro e w4 ⟨rfl, rfl⟩)
      clear h178 h176 hbl
      have c65 : w9.cell? ⟨b, 65, none⟩ = some (.int .u64 (U (A.bs (q3 65)))) := by rw [A.c65 HO3.out]; exact hM9.atq 65 (by decide) .u64 rfl
      have h177 : w9.cell? ⟨b, 177, none⟩ = some (.int .i8 (G : Int)) := hM9.atm 1 _ rfl
      have hbl := hM9.lt
      have hbB := World.block_lt_of_cell? w9 _ hB9
      have e1 := A.one_at G hG64
      have hwu : IntKind.u64.wrap (G : Int) = (G : Int) := by rw [IntKind.wrap_u64]; omega
      refine region_tail (n := 16) (by kernel_rfl) (by kernel_rfl) ?_
      simp only [List.take_succ_cons, List.take_zero, List.drop_succ_cons, List.drop_zero]
      repeat (first
        | quiet_step (fail))
      refine wpQuiet_nil ?_
      intro w10 hb10
      have hM10 := hM9.below hb10
      have hB10 := (hb10.cell (p := ⟨Bx, 0, none⟩) hbB).trans hB9
      have hG10 := A.below_step hG9 hb10
      clear c65 hbl hbB e1 hM9 hB9 hG9 hb10
      go_wp2_with ((with_reducible refine wpl_store_mq rfl _ _ _ rfl ?_); refine ⟨b, 65, q3, c, _, _, (U (bOr (A.bs (q3 65)) (B.one (G : Int)))), .u64, rfl, rfl, by decide, rfl, A.size_u64A, hM10, ?_⟩; intro w11 hP11 hM11)
      first | refine bodyPost_end (results_none rfl _ _ _) rfl ?_ | refine bodyPost_ret (results_none rfl _ _ _) rfl ?_
      refine ⟨rfl, ⟨?_, A.put_grown hG10 hP11⟩⟩
      rw [E.out]
      unfold A.domark A.unmark
      rw [hq3]
      exact hM11
  · have E := Lib.hid (show A.pocket c q ((F : Int), (G : Int), p, 0, false) (tn : Int) = A.domark (A.unmark q2 (F : Int)) (G : Int) by
      unfold A.pocket
      rw [if_neg (fun h => h.elim (fun h => h (by simpa using d1)) (fun h => h rfl)), if_neg (by simp), if_pos (.inl (by simpa using hp)), HQ2.out])
    have h178 : w9.cell? ⟨b, 178, none⟩ = some (.int .u8 p) := hM9.atm 2 _ rfl
    have h176 : w9.cell? ⟨b, 176, none⟩ = some (.int .i8 (F : Int)) := hM9.atm 0 _ rfl
    have hbl := hM9.lt
    go_upto_region 16 with fail
    clear h178 h176 hbl
    have c65 : w9.cell? ⟨b, 65, none⟩ = some (.int .u64 (U (A.bs (q3 65)))) := by rw [A.c65 HO3.out]; exact hM9.atq 65 (by decide) .u64 rfl
    have h177 : w9.cell? ⟨b, 177, none⟩ = some (.int .i8 (G : Int)) := hM9.atm 1 _ rfl
    have hbl := hM9.lt
    have hbB := World.block_lt_of_cell? w9 _ hB9
    have e1 := A.one_at G hG64
    have hwu : IntKind.u64.wrap (G : Int) = (G : Int) := by rw [IntKind.wrap_u64]; omega
    refine region_tail (n := 16) (by kernel_rfl) (by kernel_rfl) ?_
    simp only [List.take_succ_cons, List.take_zero, List.drop_succ_cons, List.drop_zero]
    repeat (first
      | quiet_step (fail))
    refine wpQuiet_nil ?_
    intro w10 hb10
    have hM10 := hM9.below hb10
    have hB10 := (hb10.cell (p := ⟨Bx, 0, none⟩) hbB).trans hB9
    have hG10 := A.below_step hG9 hb10
    clear c65 hbl hbB e1 hM9 hB9 hG9 hb10
    go_wp2_with ((with_reducible refine wpl_store_mq rfl _ _ _ rfl ?_); refine ⟨b, 65, q3, c, _, _, (U (bOr (A.bs (q3 65)) (B.one (G : Int)))), .u64, rfl, rfl, by decide, rfl, A.size_u64A, hM10, ?_⟩; intro w11 hP11 hM11)
    first | refine bodyPost_end (results_none rfl _ _ _) rfl ?_ | refine bodyPost_ret (results_none rfl _ _ _) rfl ?_
    refine ⟨rfl, ⟨?_, A.put_grown hG10 hP11⟩⟩
    rw [E.out]
    unfold A.domark A.unmark
    rw [hq3]
    exact hM11
theorem mpocket_p (q c : Nat → Int) (F G : Nat) (p : Int) (t : Int) (b : Nat) (w : World) (hM : A.MvAt w b q c ((F : Int), (G : Int), p, 0, false) t) (hF64 : F < 64) (hG64 : G < 64) (hc : PosOk c) (hq : PosOk q) (ht64 : t < 64) (d1 : (q 0 != 2) = false) :
    Calls Tryz.prog 63 #[.pointer (some ⟨b, 0, none⟩)] w fun e w' => e = .returned (.tuple #[]) ∧ A.Step b (A.pocket c q ((F : Int), (G : Int), p, 0, false) t) c ((F : Int), (G : Int), p, 0, false) t w w' := by
  cases dt : decide (0 ≤ t)
  · exact mpocket_pfff q c F G p t b w hM hF64 hG64 hc hq d1 dt
  · have ht0 : 0 ≤ t := by simpa using dt
    obtain ⟨tn, ht⟩ : ∃ tn : Nat, t = (tn : Int) := ⟨t.toNat, by omega⟩
    have htn : tn < 64 := by omega
    cases hmk : A.mark c (tn : Int)
    · exact mpocket_ptff q c F G p t b w hM hF64 hG64 hc hq d1 tn htn ht hmk
    · cases hne : (c (1 + tn) != 0)
      · exact mpocket_pttf q c F G p t b w hM hF64 hG64 hc hq d1 tn htn ht hmk hne
      · exact mpocket_pttt q c F G p t b w hM hF64 hG64 hc hq d1 tn htn ht hmk hne
end Go.Proofs.YtgkndhpolcnjbaaGreatDoor
