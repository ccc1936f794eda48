/- Several texts in one: AfG, AfH, AfN. -/

import Derived.Test.YtgkndhpolcnjbaaGreatDoorQi
import Derived.Test.YtgkndhpolcnjbaaGreatDoorQv
import Derived.Test.YtgkndhpolcnjbaaGreatDoorQa5
namespace Go.Proofs.YtgkndhpolcnjbaaGreatDoor
open Go.RowKit Go.Sort
attribute [local go_sem] Oper.semAt_some
namespace A
theorem U_bs {n : Int} (h0 : 0 ≤ n) (h1 : n ≤ 18446744073709551615) : U (bs n) = n := by
  unfold U bs
  rw [BitVec.toNat_ofInt]
  omega
theorem c65 {c : Nat → Int} (h : PosOk c) : U (bs (c 65)) = c 65 := by
  have := h 65 (by decide)
  rw [show pk 65 = .u64 from rfl] at this
  have := bounds_u64 this
  exact U_bs this.1 this.2
theorem and_1 (x : BitVec 64) : bits .and .u64 (U x) 1 = U (bAnd x 1#64) := bv_and x 1#64
theorem bit_test (x : BitVec 64) (n : Nat) : (U (bAnd (bShr x n) 1#64) == 1) = bit x n := by
  have e : bAnd (bShr x n) 1#64 = if bit x n = true then 1#64 else 0#64 := by
    unfold bAnd bShr bit
    apply BitVec.eq_of_getLsbD_eq
    intro i hi
    by_cases h : i = 0
    · subst h
      cases hb : x.getLsbD n <;> simp [hb]
    · cases hb : x.getLsbD n <;> simp [h] <;> omega
  rw [e]
  cases bit x n <;> rfl
end A
set_option maxRecDepth 100000 in
theorem marked_any (c q : Nat → Int) (m : Mv) (t : Int) (b B : Nat) (s : Nat) (w : World) (hM : A.MvAt w b q c m t) (hB : w.cell? ⟨B, 0, none⟩ = some (.pointer (some ⟨b, 0, none⟩))) (hc : PosOk c) (hs : s < 64) :
    Calls Tryz.prog 132 #[.int .i64 (s : Int), .pointer (some ⟨B, 0, none⟩)] w fun e w' => e = .returned (.bool (A.mark c (s : Int))) ∧ w = w' := by
  have h65 : w.cell? ⟨b, 153, none⟩ = some (.int .u64 (U (A.bs (c 65)))) := by
    rw [A.c65 hc]; exact hM.atc 65 (by decide) .u64 rfl
  have E := Lib.hid (show A.mark c (s : Int) = bit (A.bs (c 65)) s by unfold A.mark; rfl)
  have hw : IntKind.u64.wrap (s : Int) = (s : Int) := by rw [IntKind.wrap_u64]; omega
  have ha := A.and_1 (bShr (A.bs (c 65)) s)
  have ht := A.bit_test (A.bs (c 65)) s
  have hq := bv_shr_nat (A.bs (c 65)) s
  rw [Nat.min_eq_left (by omega)] at hq
  have HQ := Lib.hid hq
  clear hc hq
  go_enter Tryz.func132, Tryz.ntmps132
  go_wp2
  go_ret
  exact ⟨ret_bool (by rw [E.out, ← ht, HQ.out, ha]), rfl⟩
end Go.Proofs.YtgkndhpolcnjbaaGreatDoor
namespace Go.Proofs.YtgkndhpolcnjbaaGreatDoor
open Go.RowKit Go.Sort
attribute [local go_sem] Oper.semAt_some
theorem A.size_u64A : (Tryz.prog.info? 23).map (·.size) = some 1 := by kernel_rfl
theorem A.one_at (n : Nat) (h : n < 64) : IntKind.u64.wrap (2 ^ n) = U (B.one (n : Int)) := by
  have := B.one_val (n : Int) (by omega) (by omega)
  rwa [Int.toNat_natCast] at this
set_option maxRecDepth 100000 in
set_option maxHeartbeats 1000000 in
theorem mpocket_v (q c : Nat → Int) (F G : Nat) (p d : Int) (ca : Bool) (t : Int) (b : Nat) (w : World) (hM : A.MvAt w b q c ((F : Int), (G : Int), p, d, ca) t) (d1 : (q 0 != 2) = true) :
    Calls Tryz.prog 63 #[.pointer (some ⟨b, 0, none⟩)] w fun e w' => e = .returned (.tuple #[]) ∧ A.Step b (A.pocket c q ((F : Int), (G : Int), p, d, ca) t) c ((F : Int), (G : Int), p, d, ca) t w w' := by
  have h0 : w.cell? ⟨b, 0, none⟩ = some (.int .u8 (q 0)) := hM.atq 0 (by decide) .u8 rfl
  have h179 : w.cell? ⟨b, 179, none⟩ = some (.int .u8 d) := hM.atm 3 _ rfl
  have hlt := hM.lt
  have E := Lib.hid (show A.pocket c q ((F : Int), (G : Int), p, d, ca) t = q by unfold A.pocket; rw [if_pos (.inl (by simpa using d1))])
  have hB := hM.alloc (.cells #[.pointer (some ⟨b, 0, none⟩)] 89)
  go_enter Tryz.func63, Tryz.ntmps63
  go_wp2
  first | refine bodyPost_end (results_none rfl _ _ _) rfl ?_ | refine bodyPost_ret (results_none rfl _ _ _) rfl ?_
  exact ⟨rfl, ⟨by rw [E.out]; exact hB, A.below_step (World.grownBy.refl w _) ((Below.refl _ _).alloc (Nat.le_refl _) _)⟩⟩
set_option maxRecDepth 100000 in
set_option maxHeartbeats 1000000 in
theorem mpocket_d (q c : Nat → Int) (F G : Nat) (p d : Int) (ca : Bool) (t : Int) (b : Nat) (w : World) (hM : A.MvAt w b q c ((F : Int), (G : Int), p, d, ca) t) (d1 : (q 0 != 2) = false) (d2 : (d != 0) = true) :
    Calls Tryz.prog 63 #[.pointer (some ⟨b, 0, none⟩)] w fun e w' => e = .returned (.tuple #[]) ∧ A.Step b (A.pocket c q ((F : Int), (G : Int), p, d, ca) t) c ((F : Int), (G : Int), p, d, ca) t w w' := by
  have h0 : w.cell? ⟨b, 0, none⟩ = some (.int .u8 (q 0)) := hM.atq 0 (by decide) .u8 rfl
  have h179 : w.cell? ⟨b, 179, none⟩ = some (.int .u8 d) := hM.atm 3 _ rfl
  have hlt := hM.lt
  have E := Lib.hid (show A.pocket c q ((F : Int), (G : Int), p, d, ca) t = q by unfold A.pocket; rw [if_pos (.inr (by simpa using d2))])
  have hB := hM.alloc (.cells #[.pointer (some ⟨b, 0, none⟩)] 89)
  go_enter Tryz.func63, Tryz.ntmps63
  go_wp2
  first | refine bodyPost_end (results_none rfl _ _ _) rfl ?_ | refine bodyPost_ret (results_none rfl _ _ _) rfl ?_
  exact ⟨rfl, ⟨by rw [E.out]; exact hB, A.below_step (World.grownBy.refl w _) ((Below.refl _ _).alloc (Nat.le_refl _) _)⟩⟩
theorem A.bs_U (x : BitVec 64) : A.bs (U x) = x := by
  unfold A.bs U
  exact BitVec.eq_of_toNat_eq (by rw [BitVec.toNat_ofInt]; have := x.isLt; omega)
theorem A.re_mark (q : Nat → Int) (x y : BitVec 64) : upd (upd q 65 (U (bAndn (A.bs (q 65)) x))) 65 (U (bOr (A.bs (upd q 65 (U (bAndn (A.bs (q 65)) x)) 65)) y)) = upd (upd q 65 (U (bAndn (A.bs (q 65)) x))) 65 (U (bOr (bAndn (A.bs (q 65)) x) y)) := by
  rw [show upd q 65 (U (bAndn (A.bs (q 65)) x)) 65 = U (bAndn (A.bs (q 65)) x) by simp [upd], A.bs_U]
set_option maxRecDepth 100000 in
set_option maxHeartbeats 1000000 in
theorem mpocket_cf (q c : Nat → Int) (F G : Nat) (p : Int) (t : Int) (b : Nat) (w : World) (hM : A.MvAt w b q c ((F : Int), (G : Int), p, 0, true) t) (hF64 : F < 64) (hG64 : G < 64) (hc : PosOk c) (d1 : (q 0 != 2) = false) (kg rg : Nat) (hgo : T.goalsV c (T.side c F G true) = .tuple #[.int .i64 (kg : Int), .int .i64 (rg : Int), .bool true]) (hm : A.mark c (G : Int) = false) :
    Calls Tryz.prog 63 #[.pointer (some ⟨b, 0, none⟩)] w fun e w' => e = .returned (.tuple #[]) ∧ A.Step b (A.pocket c q ((F : Int), (G : Int), p, 0, true) t) c ((F : Int), (G : Int), p, 0, true) t w w' := by
  have E := Lib.hid (show A.pocket c q ((F : Int), (G : Int), p, 0, true) t = q by
    unfold A.pocket
    rw [if_neg (fun h => h.elim (fun h => h (by simpa using d1)) (fun h => h rfl)), if_pos rfl, if_neg (by rw [hm]; simp)])
  have HGo : Hid (∀ W, Calls Tryz.prog 21 #[.agg (posC c), .agg #[.int .i8 (F : Int), .int .i8 (G : Int), .int .u8 p, .int .u8 0, .bool true]] W fun e w' => e = .returned (.tuple #[.int .i64 (kg : Int), .int .i64 (rg : Int), .bool true]) ∧ Below W.heap.size W w') := Lib.hid (fun W => by
    have := cgoals_any c (F : Int) (G : Int) p 0 true W hc (by omega) (by omega)
    rwa [hgo] at this)
  have hmi := Tryz.underlying40
  have hp31 := Tryz.underlying31
  have HC := Lib.hid hc
  skip
  have hw64 : IntKind.i64.wrap (G : Int) = (G : Int) := by rw [IntKind.wrap_i64]; omega
  have hw64' : wrap64 (G : Int) = (G : Int) := by simp only [wrap64]; omega
  have hM1 := hM.alloc (.cells #[.pointer (some ⟨b, 0, none⟩)] 89)
  have hB1 : (w.alloc (.cells #[.pointer (some ⟨b, 0, none⟩)] 89)).cell? ⟨w.heap.size, 0, none⟩ = some (.pointer (some ⟨b, 0, none⟩)) := by
    rw [(RowAt.new w #[.pointer (some ⟨b, 0, none⟩)] 89).cell]; rfl
  have hG1 : w.grownBy (w.alloc (.cells #[.pointer (some ⟨b, 0, none⟩)] 89)) (some b) := A.below_step (World.grownBy.refl w _) ((Below.refl _ _).alloc (Nat.le_refl _) _)
  have hbl := hM.lt
  obtain ⟨Bx, hBe⟩ : ∃ Bx, w.heap.size = Bx := ⟨_, rfl⟩
  have hBb : Bx ≠ b := by omega
  clear hc hgo 
  go_enter Tryz.func63, Tryz.ntmps63
  go_upto_region 1 with fail
  obtain ⟨W1, hW1⟩ : ∃ W1, w.alloc (.cells #[.pointer (some ⟨b, 0, none⟩)] 89) = W1 := ⟨_, rfl⟩
  try rw [hBe] at hB1
  try rw [hBe]
  rw [hW1] at hM1 hB1 hG1 ⊢
  clear hM hW1 hbl
  have h0 : W1.cell? ⟨b, 0, none⟩ = some (.int .u8 (q 0)) := hM1.atq 0 (by decide) .u8 rfl
  have h179 : W1.cell? ⟨b, 179, none⟩ = some (.int .u8 0) := hM1.atm 3 _ rfl
  have h180 : W1.cell? ⟨b, 180, none⟩ = some (.bool true) := hM1.atm 4 _ rfl
  have hrc := hM1.rc
  have hrm : W1.rangeAt b 176 [.int .i8 (F : Int), .int .i8 (G : Int), .int .u8 p, .int .u8 0, .bool true] := hM1.rm
  have hbl := hM1.lt
  have hbB := World.block_lt_of_cell? W1 _ hB1
  go_wp2_with fail
  refine region_below (by kernel_rfl) (by kernel_rfl) ?_
  repeat (first
    | (go_big_quiet_want; refine quiet_load_mid 31 _ rfl hp31 rfl ⟨b, 88, posL c, rfl, hrc, A.posL_info _, ?_⟩; simp only [Act.put, List.setIfInBounds_toArray, List.set_cons_succ, List.set_cons_zero]; go_big_quiet_on)
    | (go_big_quiet_want; refine quiet_load_mid 40 _ rfl hmi rfl ⟨b, 176, _, rfl, hrm, A.cell_info ((F : Int), (G : Int), p, 0, true), ?_⟩; simp only [Act.put, List.setIfInBounds_toArray, List.set_cons_succ, List.set_cons_zero]; go_big_quiet_on)
    | go_big_quiet_step (first
      | (go_at_call 21; exact quiet_below (HGo.out _))))
  refine wpQuiet_nil ?_
  intro w3 hb3
  have hM3 := hM1.below hb3
  have hB3 := (hb3.cell (p := ⟨Bx, 0, none⟩) hbB).trans hB1
  have hG3 := A.below_step hG1 hb3
  have c177 : w3.cell? ⟨b, 177, none⟩ = some (.int .i8 (G : Int)) := hM3.atm 1 _ rfl
  clear hM1 hB1 hG1 hb3 h0 h179 h180 hrc hrm hbl hbB
  go_upto_region 6 with (go_at_call 132; refine (marked_any c q _ t b Bx G w3 hM3 hB3 HC.out hG64).mono ?_; rw [hm]; rintro e w4 ⟨rfl, rfl⟩)
  go_wp2
  first | refine bodyPost_end (results_none rfl _ _ _) rfl ?_ | refine bodyPost_ret (results_none rfl _ _ _) rfl ?_
  exact ⟨rfl, ⟨by rw [E.out]; exact hM3, hG3⟩⟩
set_option maxRecDepth 100000 in
set_option maxHeartbeats 1000000 in
theorem mpocket_ct (q c : Nat → Int) (F G : Nat) (p : Int) (t : Int) (b : Nat) (w : World) (hM : A.MvAt w b q c ((F : Int), (G : Int), p, 0, true) t) (hF64 : F < 64) (hG64 : G < 64) (hc : PosOk c) (hq : PosOk q) (d1 : (q 0 != 2) = false) (kg rg : Nat) (hgo : T.goalsV c (T.side c F G true) = .tuple #[.int .i64 (kg : Int), .int .i64 (rg : Int), .bool true]) (hrg64 : rg < 64) (hrA : A.rg c ((F : Int), (G : Int), p, 0, true) = rg) (hm : A.mark c (G : Int) = true) :
    Calls Tryz.prog 63 #[.pointer (some ⟨b, 0, none⟩)] w fun e w' => e = .returned (.tuple #[]) ∧ A.Step b (A.pocket c q ((F : Int), (G : Int), p, 0, true) t) c ((F : Int), (G : Int), p, 0, true) t w w' := by
  have E := Lib.hid (show A.pocket c q ((F : Int), (G : Int), p, 0, true) t = (upd (upd q 65 (U (bAndn (A.bs (q 65)) (B.one (G : Int))))) 65 (U (bOr (bAndn (A.bs (q 65)) (B.one (G : Int))) (B.one (rg : Int))))) by
    unfold A.pocket
    rw [if_neg (fun h => h.elim (fun h => h (by simpa using d1)) (fun h => h rfl)), if_pos rfl, if_pos hm, hrA]; exact A.re_mark q _ _)
  have HGo : Hid (∀ W, Calls Tryz.prog 21 #[.agg (posC c), .agg #[.int .i8 (F : Int), .int .i8 (G : Int), .int .u8 p, .int .u8 0, .bool true]] W fun e w' => e = .returned (.tuple #[.int .i64 (kg : Int), .int .i64 (rg : Int), .bool true]) ∧ Below W.heap.size W w') := Lib.hid (fun W => by
    have := cgoals_any c (F : Int) (G : Int) p 0 true W hc (by omega) (by omega)
    rwa [hgo] at this)
  have hmi := Tryz.underlying40
  have hp31 := Tryz.underlying31
  have HC := Lib.hid hc
  have hqk := Lib.hid hq
  have hw64 : IntKind.i64.wrap (G : Int) = (G : Int) := by rw [IntKind.wrap_i64]; omega
  have hw64' : wrap64 (G : Int) = (G : Int) := by simp only [wrap64]; omega
  have hM1 := hM.alloc (.cells #[.pointer (some ⟨b, 0, none⟩)] 89)
  have hB1 : (w.alloc (.cells #[.pointer (some ⟨b, 0, none⟩)] 89)).cell? ⟨w.heap.size, 0, none⟩ = some (.pointer (some ⟨b, 0, none⟩)) := by
    rw [(RowAt.new w #[.pointer (some ⟨b, 0, none⟩)] 89).cell]; rfl
  have hG1 : w.grownBy (w.alloc (.cells #[.pointer (some ⟨b, 0, none⟩)] 89)) (some b) := A.below_step (World.grownBy.refl w _) ((Below.refl _ _).alloc (Nat.le_refl _) _)
  have hbl := hM.lt
  obtain ⟨Bx, hBe⟩ : ∃ Bx, w.heap.size = Bx := ⟨_, rfl⟩
  have hBb : Bx ≠ b := by omega
  clear hc hgo hq hrA
  go_enter Tryz.func63, Tryz.ntmps63
  go_upto_region 1 with fail
  obtain ⟨W1, hW1⟩ : ∃ W1, w.alloc (.cells #[.pointer (some ⟨b, 0, none⟩)] 89) = W1 := ⟨_, rfl⟩
  try rw [hBe] at hB1
  try rw [hBe]
  rw [hW1] at hM1 hB1 hG1 ⊢
  clear hM hW1 hbl
  have h0 : W1.cell? ⟨b, 0, none⟩ = some (.int .u8 (q 0)) := hM1.atq 0 (by decide) .u8 rfl
  have h179 : W1.cell? ⟨b, 179, none⟩ = some (.int .u8 0) := hM1.atm 3 _ rfl
  have h180 : W1.cell? ⟨b, 180, none⟩ = some (.bool true) := hM1.atm 4 _ rfl
  have hrc := hM1.rc
  have hrm : W1.rangeAt b 176 [.int .i8 (F : Int), .int .i8 (G : Int), .int .u8 p, .int .u8 0, .bool true] := hM1.rm
  have hbl := hM1.lt
  have hbB := World.block_lt_of_cell? W1 _ hB1
  go_wp2_with fail
  refine region_below (by kernel_rfl) (by kernel_rfl) ?_
  repeat (first
    | (go_big_quiet_want; refine quiet_load_mid 31 _ rfl hp31 rfl ⟨b, 88, posL c, rfl, hrc, A.posL_info _, ?_⟩; simp only [Act.put, List.setIfInBounds_toArray, List.set_cons_succ, List.set_cons_zero]; go_big_quiet_on)
    | (go_big_quiet_want; refine quiet_load_mid 40 _ rfl hmi rfl ⟨b, 176, _, rfl, hrm, A.cell_info ((F : Int), (G : Int), p, 0, true), ?_⟩; simp only [Act.put, List.setIfInBounds_toArray, List.set_cons_succ, List.set_cons_zero]; go_big_quiet_on)
    | go_big_quiet_step (first
      | (go_at_call 21; exact quiet_below (HGo.out _))))
  refine wpQuiet_nil ?_
  intro w3 hb3
  have hM3 := hM1.below hb3
  have hB3 := (hb3.cell (p := ⟨Bx, 0, none⟩) hbB).trans hB1
  have hG3 := A.below_step hG1 hb3
  have c177 : w3.cell? ⟨b, 177, none⟩ = some (.int .i8 (G : Int)) := hM3.atm 1 _ rfl
  clear hM1 hB1 hG1 hb3 h0 h179 h180 hrc hrm hbl hbB
  go_upto_region 6 with (go_at_call 132; refine (marked_any c q _ t b Bx G w3 hM3 hB3 HC.out hG64).mono ?_; rw [hm]; rintro e w4 ⟨rfl, rfl⟩)
  have c65 : w3.cell? ⟨b, 65, none⟩ = some (.int .u64 (U (A.bs (q 65)))) := by rw [A.c65 hqk.out]; exact hM3.atq 65 (by decide) .u64 rfl
  have c177 : w3.cell? ⟨b, 177, none⟩ = some (.int .i8 (G : Int)) := hM3.atm 1 _ rfl
  have hbl := hM3.lt
  have hbB := World.block_lt_of_cell? w3 _ hB3
  have e1 := A.one_at G hG64
  have hwu : IntKind.u64.wrap (G : Int) = (G : Int) := by rw [IntKind.wrap_u64]; omega
  refine region_tail (n := 16) (by kernel_rfl) (by kernel_rfl) ?_
  simp only [List.take_succ_cons, List.take_zero, List.drop_succ_cons, List.drop_zero]
  repeat (quiet_step (fail))
  refine wpQuiet_nil ?_
  intro w5 hb5
  have hM5 := hM3.below hb5
  have hB5 := (hb5.cell (p := ⟨Bx, 0, none⟩) hbB).trans hB3
  have hG5 := A.below_step hG3 hb5
  clear c65 c177 hbl hbB e1 hM3 hB3 hG3 hb5
  go_upto_region 7 with ((with_reducible refine wpl_store_mq rfl _ _ _ rfl ?_); refine ⟨b, 65, q, c, _, t, _, .u64, rfl, rfl, by decide, rfl, A.size_u64A, hM5, ?_⟩; intro W6 hP6 hM6)
  have hB6 : W6.cell? ⟨Bx, 0, none⟩ = some (.pointer (some ⟨b, 0, none⟩)) := (hP6.cell (p := ⟨Bx, 0, none⟩) hBb).trans hB5
  have hG6 := A.put_grown hG5 hP6
  have c65 : W6.cell? ⟨b, 65, none⟩ = some (.int .u64 (U (bAndn (A.bs (q 65)) (B.one (G : Int))))) := hM6.atq 65 (by decide) .u64 rfl
  have e2 := A.one_at rg hrg64
  have hwr : IntKind.u64.wrap (rg : Int) = (rg : Int) := by rw [IntKind.wrap_u64]; omega
  clear hM5 hB5 hG5 hP6
  go_wp2_with ((with_reducible refine wpl_store_mq rfl _ _ _ rfl ?_); refine ⟨b, 65, _, c, _, t, (U (bOr (bAndn (A.bs (q 65)) (B.one (G : Int))) (B.one (rg : Int)))), .u64, rfl, rfl, by decide, rfl, A.size_u64A, hM6, ?_⟩; intro W7 hP7 hM7)
  first | refine bodyPost_end (results_none rfl _ _ _) rfl ?_ | refine bodyPost_ret (results_none rfl _ _ _) rfl ?_
  exact ⟨rfl, ⟨by rw [E.out]; exact hM7, A.put_grown hG6 hP7⟩⟩
end Go.Proofs.YtgkndhpolcnjbaaGreatDoor
namespace Go.Proofs.YtgkndhpolcnjbaaGreatDoor
open Go.RowKit Go.Sort
attribute [local go_sem] Oper.semAt_some
theorem A.take_78 (c : Nat → Int) (color kind : Int) (h0 : 0 ≤ color) : A.take c color kind 78 = c 78 := by
  unfold A.take
  split
  · rename_i h
    obtain ⟨h1, h2⟩ := A.fits_cases h0 h.1
    exact upd_other _ _ _ _ (by unfold A.pk6; omega)
  · rfl
theorem A.turn_cell {w' : World} {b : Nat} {c : Nat → Int} {m : Mv} {t : Int} {n : Int} (h : ∃ q', A.MvAt w' b q' c m t ∧ q' 78 = n) : w'.cell? ⟨b, 78, none⟩ = some (.int .u8 n) := by
  obtain ⟨q', h, e⟩ := h
  rw [← e]
  exact h.atq 78 (by decide) .u8 rfl
set_option maxRecDepth 100000 in
set_option maxHeartbeats 1000000 in
theorem mmen_drop (c : Nat → Int) (F G : Nat) (p d : Int) (t : Int) (b : Nat) (w : World) (hM : A.MvAt w b c c ((F : Int), (G : Int), p, d, false) t) (hG64 : G < 64) (hq : PosOk c) (hd : (d != 0) = true) (hd0 : 0 ≤ d) (hd1 : d ≤ 255) :
    Calls Tryz.prog 62 #[.pointer (some ⟨b, 0, none⟩)] w fun e w' => e = .returned (.tuple #[]) ∧ A.Step b (A.men c ((F : Int), (G : Int), p, d, false) t) c ((F : Int), (G : Int), p, d, false) t w w' := by
  have E := Lib.hid (show A.men c ((F : Int), (G : Int), p, d, false) t = upd (A.take c (c 78) d) (1 + G) (P.make (c 78) d) by
    unfold A.men
    rw [if_neg (show ¬ false = true by simp), if_pos (show d ≠ 0 by simpa using hd)]
    rfl)
  obtain ⟨x0, x1⟩ := pos_u8 hq (i := 78) (by decide) rfl
  have hmi := Tryz.underlying40
  have hp31 := Tryz.underlying31
  have iG : (G : Int) < 64 := by omega
  have hlt := hM.lt
  have G0 := World.grownBy.refl w (some b)
  have hrm : w.rangeAt b 176 [.int .i8 (F : Int), .int .i8 (G : Int), .int .u8 p, .int .u8 d, .bool false] := hM.rm
  have HQ := Lib.hid hq
  clear hq
  go_enter Tryz.func62, Tryz.ntmps62
  go_upto_region 6 with ((with_reducible refine wp_load_elem rfl 40 _ rfl hmi rfl ?_); refine ⟨b, 176, _, rfl, hrm, A.cell_info ((F : Int), (G : Int), p, d, false), ?_⟩)
  have hMc := hM.alloc (.cells #[.int .i8 (F : Int), .int .i8 (G : Int), .int .u8 p, .int .u8 d, .bool false] 40)
  have hGc : w.grownBy (w.alloc (.cells #[.int .i8 (F : Int), .int .i8 (G : Int), .int .u8 p, .int .u8 d, .bool false] 40)) (some b) := A.below_step G0 ((Below.refl _ _).alloc (Nat.le_refl _) _)
  have hDc := RowAt.new w #[.int .i8 (F : Int), .int .i8 (G : Int), .int .u8 p, .int .u8 d, .bool false] 40
  obtain ⟨D, hD⟩ : ∃ D, w.heap.size = D := ⟨_, rfl⟩
  have hDb : D ≠ b := by omega
  obtain ⟨W1, hW1⟩ : ∃ W1, w.alloc (.cells #[.int .i8 (F : Int), .int .i8 (G : Int), .int .u8 p, .int .u8 d, .bool false] 40) = W1 := ⟨_, rfl⟩
  rw [hD] at hDc ⊢
  rw [hW1] at hMc hGc hDc ⊢
  clear hM hrm G0 hW1
  have d3 : W1.cell? ⟨D, 3, none⟩ = some (.int .u8 d) := hDc.cell 3
  have d4 : W1.cell? ⟨D, 4, none⟩ = some (.bool false) := hDc.cell 4
  have h78 : W1.cell? ⟨b, 78, none⟩ = some (.int .u8 (c 78)) := hMc.atq 78 (by decide) .u8 rfl
  have hrg := hMc.rq
  have hbl := hMc.lt
  have hbD := hDc.lt
  go_wp2_with fail
  refine wp_region_held (S := fun w' => (∃ q', A.MvAt w' b q' c ((F : Int), (G : Int), p, d, false) t ∧ q' 78 = c 78) ∧ RowAt w' D 40 #[.int .i8 (F : Int), .int .i8 (G : Int), .int .u8 p, .int .u8 d, .bool false] ∧ w.grownBy w' (some b)) (by kernel_rfl) ?_
  have hMd : A.MvAt W1.drew b c c ((F : Int), (G : Int), p, d, false) t := ⟨⟨hMc.row.heap⟩⟩
  have hSd : (∃ q', A.MvAt W1.drew b q' c ((F : Int), (G : Int), p, d, false) t ∧ q' 78 = c 78) ∧ RowAt W1.drew D 40 #[.int .i8 (F : Int), .int .i8 (G : Int), .int .u8 p, .int .u8 d, .bool false] ∧ w.grownBy W1.drew (some b) := ⟨⟨_, hMd, rfl⟩, ⟨hDc.heap⟩, A.below_step hGc (M.below_drew (Below.refl _ _) 1)⟩
  clear hMc hDc hGc d3 d4 h78 hrg hbl hbD
  refine takeD 0 (some 124) (.pointer (some ⟨b, 0, none⟩)) (by kernel_rfl) (by kernel_rfl) (by kernel_rfl) (by kernel_rfl) (by kernel_rfl) (fun _ _ _ h => h) (yi_pure (v0 := .pointer (some ⟨b, 0, none⟩)) (by kernel_rfl) (fun _ => by kernel_rfl) rfl) hSd ?_
  simp only [Act.put, List.setIfInBounds_toArray, List.set_cons_succ, List.set_cons_zero]
  refine takeD 1 (some 125) (.pointer (some ⟨b, 0, none⟩)) (by kernel_rfl) (by kernel_rfl) (by kernel_rfl) (by kernel_rfl) (by kernel_rfl) (fun _ _ _ h => h) (yi_pure (v0 := .pointer (some ⟨b, 0, none⟩)) (by kernel_rfl) (fun _ => by kernel_rfl) rfl) hSd ?_
  simp only [Act.put, List.setIfInBounds_toArray, List.set_cons_succ, List.set_cons_zero]
  refine takeD 2 (some 126) (.pointer (some ⟨b, 0, none⟩)) (by kernel_rfl) (by kernel_rfl) (by kernel_rfl) (by kernel_rfl) (by kernel_rfl) (fun _ _ _ h => h) (yi_pure (v0 := .pointer (some ⟨b, 0, none⟩)) (by kernel_rfl) (fun _ => by kernel_rfl) rfl) hSd ?_
  simp only [Act.put, List.setIfInBounds_toArray, List.set_cons_succ, List.set_cons_zero]
  refine takeD 3 (some 127) (.pointer (some ⟨b, 0, none⟩)) (by kernel_rfl) (by kernel_rfl) (by kernel_rfl) (by kernel_rfl) (by kernel_rfl) (fun _ _ _ h => h) (yi_pure (v0 := .pointer (some ⟨b, 0, none⟩)) (by kernel_rfl) (fun _ => by kernel_rfl) rfl) hSd ?_
  simp only [Act.put, List.setIfInBounds_toArray, List.set_cons_succ, List.set_cons_zero]
  refine takeD 5 (some 129) (.pointer (some ⟨b, 0, none⟩)) (by kernel_rfl) (by kernel_rfl) (by kernel_rfl) (by kernel_rfl) (by kernel_rfl) (fun _ _ _ h => h) (yi_pure (v0 := .pointer (some ⟨b, 0, none⟩)) (by kernel_rfl) (fun _ => by kernel_rfl) rfl) hSd ?_
  simp only [Act.put, List.setIfInBounds_toArray, List.set_cons_succ, List.set_cons_zero]
  refine takeD 6 (some 130) (.pointer (some ⟨b, 0, none⟩)) (by kernel_rfl) (by kernel_rfl) (by kernel_rfl) (by kernel_rfl) (by kernel_rfl) (fun _ _ _ h => h) (yi_pure (v0 := .pointer (some ⟨b, 0, none⟩)) (by kernel_rfl) (fun _ => by kernel_rfl) rfl) hSd ?_
  simp only [Act.put, List.setIfInBounds_toArray, List.set_cons_succ, List.set_cons_zero]
  refine takeD 7 (some 131) (.pointer (some ⟨b, 0, none⟩)) (by kernel_rfl) (by kernel_rfl) (by kernel_rfl) (by kernel_rfl) (by kernel_rfl) (fun _ _ _ h => h) (yi_pure (v0 := .pointer (some ⟨b, 0, none⟩)) (by kernel_rfl) (fun _ => by kernel_rfl) rfl) hSd ?_
  simp only [Act.put, List.setIfInBounds_toArray, List.set_cons_succ, List.set_cons_zero]
  refine takeD 8 (some 132) (.pointer (some ⟨b, 78, none⟩)) (by kernel_rfl) (by kernel_rfl) (by kernel_rfl) (by kernel_rfl) (by kernel_rfl) (fun _ _ _ h => h) (yi_pure (v0 := .pointer (some ⟨b, 78, none⟩)) (by kernel_rfl) (fun _ => by kernel_rfl) rfl) hSd ?_
  simp only [Act.put, List.setIfInBounds_toArray, List.set_cons_succ, List.set_cons_zero]
  refine takeD 9 (some 133) (.int .u8 (c 78)) (by kernel_rfl) (by kernel_rfl) (by kernel_rfl) (by kernel_rfl) (by kernel_rfl) (fun _ _ _ h => h) (yi_load (by kernel_rfl) 5 (.tmp 132) (by kernel_rfl) ⟨b, 78, none⟩ (by kernel_rfl) (fun w9 => load_u8 _ _ w9) (fun w9 h9 => (A.turn_cell h9.1))) hSd ?_
  simp only [Act.put, List.setIfInBounds_toArray, List.set_cons_succ, List.set_cons_zero]
  refine takeD 10 (some 134) (.pointer (some ⟨D, 3, none⟩)) (by kernel_rfl) (by kernel_rfl) (by kernel_rfl) (by kernel_rfl) (by kernel_rfl) (fun _ _ _ h => h) (yi_pure (v0 := .pointer (some ⟨D, 3, none⟩)) (by kernel_rfl) (fun _ => by kernel_rfl) rfl) hSd ?_
  simp only [Act.put, List.setIfInBounds_toArray, List.set_cons_succ, List.set_cons_zero]
  refine takeD 11 (some 135) (.int .u8 d) (by kernel_rfl) (by kernel_rfl) (by kernel_rfl) (by kernel_rfl) (by kernel_rfl) (fun _ _ _ h => h) (yi_load (by kernel_rfl) 5 (.tmp 134) (by kernel_rfl) ⟨D, 3, none⟩ (by kernel_rfl) (fun w9 => load_u8 _ _ w9) (fun w9 h9 => (h9.2.1.cell 3))) hSd ?_
  simp only [Act.put, List.setIfInBounds_toArray, List.set_cons_succ, List.set_cons_zero]
  refine A.takeLoad 4 (some 128) 31 (.tmp 127) b 0 (posL c) (by kernel_rfl) (by kernel_rfl) (by kernel_rfl) (by kernel_rfl) (by kernel_rfl) (by kernel_rfl) hMd.rq hp31 rfl (A.posL_info c) ?_
  refine ⟨hSd, ?_⟩
  simp only [Act.put, List.setIfInBounds_toArray, List.set_cons_succ, List.set_cons_zero]
  refine takeCall 12 (some 136) 130 (#[.agg (posC c), .int .u8 (c 78), .int .u8 d]) (.tuple #[.agg (posC (A.take c (c 78) d)), .bool (A.takeOk c (c 78) d)]) (fun w9 => Below W1.drew.heap.size W1.drew w9) (by kernel_rfl) (by kernel_rfl) (by kernel_rfl) (by kernel_rfl) (by kernel_rfl) (dtake_any c _ _ _ HQ.out x0) (fun u1 hRu1 => ?_)
  simp only [Act.put, List.setIfInBounds_toArray, List.set_cons_succ, List.set_cons_zero]
  have hMu1 := hMd.below hRu1
  have hSu1 : (∃ q', A.MvAt u1 b q' c ((F : Int), (G : Int), p, d, false) t ∧ q' 78 = c 78) ∧ RowAt u1 D 40 #[.int .i8 (F : Int), .int .i8 (G : Int), .int .u8 p, .int .u8 d, .bool false] ∧ w.grownBy u1 (some b) := ⟨⟨_, hMu1, rfl⟩, hSd.2.1.below hRu1, A.below_step hSd.2.2 hRu1⟩
  clear hRu1
  refine ⟨hSu1, ?_⟩
  refine takeD 13 (some 123) (.tuple #[.agg (posC (A.take c (c 78) d)), .bool (A.takeOk c (c 78) d)]) (by kernel_rfl) (by kernel_rfl) (by kernel_rfl) (by kernel_rfl) (by kernel_rfl) (fun _ _ _ h => h) (yi_pure (v0 := .tuple #[.agg (posC (A.take c (c 78) d)), .bool (A.takeOk c (c 78) d)]) (by kernel_rfl) (fun _ => by kernel_rfl) rfl) hSu1 ?_
  simp only [Act.put, List.setIfInBounds_toArray, List.set_cons_succ, List.set_cons_zero]
  refine takeD 14 (some 137) (.agg (posC (A.take c (c 78) d))) (by kernel_rfl) (by kernel_rfl) (by kernel_rfl) (by kernel_rfl) (by kernel_rfl) (fun _ _ _ h => h) (yi_pure (v0 := .agg (posC (A.take c (c 78) d))) (by kernel_rfl) (fun _ => by kernel_rfl) rfl) hSu1 ?_
  simp only [Act.put, List.setIfInBounds_toArray, List.set_cons_succ, List.set_cons_zero]
  refine takeD 15 (some 138) (.bool (A.takeOk c (c 78) d)) (by kernel_rfl) (by kernel_rfl) (by kernel_rfl) (by kernel_rfl) (by kernel_rfl) (fun _ _ _ h => h) (yi_pure (v0 := .bool (A.takeOk c (c 78) d)) (by kernel_rfl) (fun _ => by kernel_rfl) rfl) hSu1 ?_
  simp only [Act.put, List.setIfInBounds_toArray, List.set_cons_succ, List.set_cons_zero]
  refine takeD 16 (some 139) (.pointer (some ⟨b, 0, none⟩)) (by kernel_rfl) (by kernel_rfl) (by kernel_rfl) (by kernel_rfl) (by kernel_rfl) (fun _ _ _ h => h) (yi_pure (v0 := .pointer (some ⟨b, 0, none⟩)) (by kernel_rfl) (fun _ => by kernel_rfl) rfl) hSu1 ?_
  simp only [Act.put, List.setIfInBounds_toArray, List.set_cons_succ, List.set_cons_zero]
  refine takeD 17 (some 140) (.pointer (some ⟨b, 0, none⟩)) (by kernel_rfl) (by kernel_rfl) (by kernel_rfl) (by kernel_rfl) (by kernel_rfl) (fun _ _ _ h => h) (yi_pure (v0 := .pointer (some ⟨b, 0, none⟩)) (by kernel_rfl) (fun _ => by kernel_rfl) rfl) hSu1 ?_
  simp only [Act.put, List.setIfInBounds_toArray, List.set_cons_succ, List.set_cons_zero]
  refine A.takeStoreP 18 (.tmp 140) (.tmp 137) (b := b) (q' := A.take c (c 78) d) (by kernel_rfl) (by kernel_rfl) (by kernel_rfl) (by kernel_rfl) (by kernel_rfl) (by kernel_rfl) (by kernel_rfl) hMu1 (fun u2 hPu2 hMu2 => ?_)
  have hSu2 : (∃ q', A.MvAt u2 b q' c ((F : Int), (G : Int), p, d, false) t ∧ q' 78 = c 78) ∧ RowAt u2 D 40 #[.int .i8 (F : Int), .int .i8 (G : Int), .int .u8 p, .int .u8 d, .bool false] ∧ w.grownBy u2 (some b) := ⟨⟨_, hMu2, A.take_78 _ _ _ x0⟩, hPu2.row hSu1.2.1 hDb, A.put_grown hSu1.2.2 hPu2⟩
  refine ⟨hSu2, ?_⟩
  clear hPu2 hMu1
  refine wpAnyH_done (by kernel_rfl) ?_ _
  have hMc := hMu2
  have hDc := hSu2.2.1
  have hGc := hSu2.2.2
  clear hSu2 hMu2 hSu1 hMd hSd
  go_upto_region 12 with fail
  obtain ⟨W3, hW3⟩ : ∃ W3, u2 = W3 := ⟨_, rfl⟩
  rw [hW3] at hMc hDc hGc ⊢
  clear hW3
  have d3 : W3.cell? ⟨D, 3, none⟩ = some (.int .u8 d) := hDc.cell 3
  have d1 : W3.cell? ⟨D, 1, none⟩ = some (.int .i8 (G : Int)) := hDc.cell 1
  have h78 : W3.cell? ⟨b, 78, none⟩ = some (.int .u8 (c 78)) := by
    have := hMc.atq 78 (by decide) .u8 rfl
    rwa [A.take_78 _ _ _ x0] at this
  have hbl := hMc.lt
  have hbD := hDc.lt
  refine region_tail (n := 15) (by kernel_rfl) (by kernel_rfl) ?_
  simp only [List.take_succ_cons, List.take_zero, List.drop_succ_cons, List.drop_zero]
  repeat (quiet_step ((go_at_call 131; exact quiet_below (A.make_b _ _ _ x0 x1 hd0 hd1))))
  refine wpQuiet_nil ?_
  intro W4 hb4
  replace hMc := hMc.below hb4
  replace hGc := A.below_step hGc hb4
  clear d1 d3 h78 hbl hb4 hbD
  go_wp2_with ((with_reducible refine wpl_store_mq rfl _ _ _ rfl ?_); refine ⟨b, 1 + G, _, c, _, t, _, .u8, rfl, rfl, (by omega), pk_board hG64, Tryz.size_u8A, hMc, ?_⟩; intro W5 hP5 hM5; replace hMc := hM5; clear hM5)
  replace hGc := A.put_grown hGc hP5
  first | refine bodyPost_end (results_none rfl _ _ _) rfl ?_ | refine bodyPost_ret (results_none rfl _ _ _) rfl ?_
  exact ⟨rfl, ⟨by rw [E.out]; exact hMc, hGc⟩⟩
set_option maxRecDepth 100000 in
set_option maxHeartbeats 1000000 in
theorem mmen_castle (c : Nat → Int) (F G : Nat) (p d : Int) (t : Int) (b : Nat) (w : World) (hM : A.MvAt w b c c ((F : Int), (G : Int), p, d, true) t) (hG64 : G < 64) (hq : PosOk c) (hF64 : F < 64) (kg rg : Nat) (hkg64 : kg < 64) (hrg64 : rg < 64) (hgo : T.goalsV c (T.side c F G true) = .tuple #[.int .i64 (kg : Int), .int .i64 (rg : Int), .bool true]) (hkA : A.kg c ((F : Int), (G : Int), p, d, true) = kg) (hrA : A.rg c ((F : Int), (G : Int), p, d, true) = rg) :
    Calls Tryz.prog 62 #[.pointer (some ⟨b, 0, none⟩)] w fun e w' => e = .returned (.tuple #[]) ∧ A.Step b (A.men c ((F : Int), (G : Int), p, d, true) t) c ((F : Int), (G : Int), p, d, true) t w w' := by
  have E := Lib.hid (show A.men c ((F : Int), (G : Int), p, d, true) t = upd (upd (upd (upd c (1 + F) 0) (1 + G) 0) (1 + kg) (c (1 + F))) (1 + rg) (c (1 + G)) by
    unfold A.men
    rw [if_pos rfl, hkA, hrA]
    rfl)
  obtain ⟨x0, x1⟩ := pos_u8 hq (i := 78) (by decide) rfl
  have hmi := Tryz.underlying40
  have hp31 := Tryz.underlying31
  have iG : (G : Int) < 64 := by omega
  have hlt := hM.lt
  have G0 := World.grownBy.refl w (some b)
  have hrm : w.rangeAt b 176 [.int .i8 (F : Int), .int .i8 (G : Int), .int .u8 p, .int .u8 d, .bool true] := hM.rm
  have HQ := Lib.hid hq
  clear hq
  go_enter Tryz.func62, Tryz.ntmps62
  go_upto_region 6 with ((with_reducible refine wp_load_elem rfl 40 _ rfl hmi rfl ?_); refine ⟨b, 176, _, rfl, hrm, A.cell_info ((F : Int), (G : Int), p, d, true), ?_⟩)
  have hMc := hM.alloc (.cells #[.int .i8 (F : Int), .int .i8 (G : Int), .int .u8 p, .int .u8 d, .bool true] 40)
  have hGc : w.grownBy (w.alloc (.cells #[.int .i8 (F : Int), .int .i8 (G : Int), .int .u8 p, .int .u8 d, .bool true] 40)) (some b) := A.below_step G0 ((Below.refl _ _).alloc (Nat.le_refl _) _)
  have hDc := RowAt.new w #[.int .i8 (F : Int), .int .i8 (G : Int), .int .u8 p, .int .u8 d, .bool true] 40
  obtain ⟨D, hD⟩ : ∃ D, w.heap.size = D := ⟨_, rfl⟩
  have hDb : D ≠ b := by omega
  obtain ⟨W1, hW1⟩ : ∃ W1, w.alloc (.cells #[.int .i8 (F : Int), .int .i8 (G : Int), .int .u8 p, .int .u8 d, .bool true] 40) = W1 := ⟨_, rfl⟩
  rw [hD] at hDc ⊢
  rw [hW1] at hMc hGc hDc ⊢
  clear hM hrm G0 hW1
  have HGo : Hid (∀ W, Calls Tryz.prog 21 #[.agg (posC c), .agg #[.int .i8 (F : Int), .int .i8 (G : Int), .int .u8 p, .int .u8 d, .bool true]] W fun e w' => e = .returned (.tuple #[.int .i64 (kg : Int), .int .i64 (rg : Int), .bool true]) ∧ Below W.heap.size W w') := Lib.hid (fun W => by
    have := cgoals_any c (F : Int) (G : Int) p d true W HQ.out (by omega) (by omega)
    rwa [hgo] at this)
  have d4 : W1.cell? ⟨D, 4, none⟩ = some (.bool true) := hDc.cell 4
  have hrc := hMc.rc
  have hrD : W1.rangeAt D 0 [.int .i8 (F : Int), .int .i8 (G : Int), .int .u8 p, .int .u8 d, .bool true] := fun j v hj => by
    rw [Nat.zero_add, hDc.cell, List.getElem?_toArray]; exact hj
  have hbl := hMc.lt
  have hbD := hDc.lt
  clear hgo hkA hrA
  go_wp2_with fail
  refine region_below (by kernel_rfl) (by kernel_rfl) ?_
  repeat (first
    | (go_big_quiet_want; refine quiet_load_mid 31 _ rfl hp31 rfl ⟨b, 88, posL c, rfl, hrc, A.posL_info _, ?_⟩; simp only [Act.put, List.setIfInBounds_toArray, List.set_cons_succ, List.set_cons_zero]; go_big_quiet_on)
    | (go_big_quiet_want; refine quiet_load_mid 40 _ rfl hmi rfl ⟨D, 0, _, rfl, hrD, A.cell_info ((F : Int), (G : Int), p, d, true), ?_⟩; simp only [Act.put, List.setIfInBounds_toArray, List.set_cons_succ, List.set_cons_zero]; go_big_quiet_on)
    | go_big_quiet_step (first
      | (go_at_call 21; exact quiet_below (HGo.out _))))
  refine wpQuiet_nil ?_
  intro W2 hb2
  replace hMc := hMc.below hb2
  replace hDc := hDc.below hb2
  replace hGc := A.below_step hGc hb2
  clear d4 hrc hrD hbl hbD hb2
  go_wp2_with fail
  refine wp_region_held (S := fun w' => (∃ q', A.MvAt w' b q' c ((F : Int), (G : Int), p, d, true) t) ∧ RowAt w' D 40 #[.int .i8 (F : Int), .int .i8 (G : Int), .int .u8 p, .int .u8 d, .bool true] ∧ w.grownBy w' (some b)) (by kernel_rfl) ?_
  have hMd : A.MvAt W2.drew b _ c ((F : Int), (G : Int), p, d, true) t := ⟨⟨hMc.row.heap⟩⟩
  have hSd : (∃ q', A.MvAt W2.drew b q' c ((F : Int), (G : Int), p, d, true) t) ∧ RowAt W2.drew D 40 #[.int .i8 (F : Int), .int .i8 (G : Int), .int .u8 p, .int .u8 d, .bool true] ∧ w.grownBy W2.drew (some b) := ⟨⟨_, hMd⟩, ⟨hDc.heap⟩, A.below_step hGc (M.below_drew (Below.refl _ _) 1)⟩
  clear hMc hDc hGc
  refine takeD 0 (some 77) (.pointer (some ⟨b, 0, none⟩)) (by kernel_rfl) (by kernel_rfl) (by kernel_rfl) (by kernel_rfl) (by kernel_rfl) (fun _ _ _ h => h) (yi_pure (v0 := .pointer (some ⟨b, 0, none⟩)) (by kernel_rfl) (fun _ => by kernel_rfl) rfl) hSd ?_
  simp only [Act.put, List.setIfInBounds_toArray, List.set_cons_succ, List.set_cons_zero]
  refine takeD 1 (some 78) (.pointer (some ⟨D, 0, none⟩)) (by kernel_rfl) (by kernel_rfl) (by kernel_rfl) (by kernel_rfl) (by kernel_rfl) (fun _ _ _ h => h) (yi_pure (v0 := .pointer (some ⟨D, 0, none⟩)) (by kernel_rfl) (fun _ => by kernel_rfl) rfl) hSd ?_
  simp only [Act.put, List.setIfInBounds_toArray, List.set_cons_succ, List.set_cons_zero]
  refine takeD 2 (some 79) (.int .i8 (F : Int)) (by kernel_rfl) (by kernel_rfl) (by kernel_rfl) (by kernel_rfl) (by kernel_rfl) (fun _ _ _ h => h) (yi_load (by kernel_rfl) 26 (.tmp 78) (by kernel_rfl) ⟨D, 0, none⟩ (by kernel_rfl) (fun w9 => load_i8 _ _ w9) (fun w9 h9 => (h9.2.1.cell 0))) hSd ?_
  simp only [Act.put, List.setIfInBounds_toArray, List.set_cons_succ, List.set_cons_zero]
  refine takeD 3 (some 80) (.pointer (some ⟨b, 0, none⟩)) (by kernel_rfl) (by kernel_rfl) (by kernel_rfl) (by kernel_rfl) (by kernel_rfl) (fun _ _ _ h => h) (yi_pure (v0 := .pointer (some ⟨b, 0, none⟩)) (by kernel_rfl) (fun _ => by kernel_rfl) rfl) hSd ?_
  simp only [Act.put, List.setIfInBounds_toArray, List.set_cons_succ, List.set_cons_zero]
  refine takeD 4 (some 81) (.pointer (some ⟨D, 1, none⟩)) (by kernel_rfl) (by kernel_rfl) (by kernel_rfl) (by kernel_rfl) (by kernel_rfl) (fun _ _ _ h => h) (yi_pure (v0 := .pointer (some ⟨D, 1, none⟩)) (by kernel_rfl) (fun _ => by kernel_rfl) rfl) hSd ?_
  simp only [Act.put, List.setIfInBounds_toArray, List.set_cons_succ, List.set_cons_zero]
  refine takeD 5 (some 82) (.int .i8 (G : Int)) (by kernel_rfl) (by kernel_rfl) (by kernel_rfl) (by kernel_rfl) (by kernel_rfl) (fun _ _ _ h => h) (yi_load (by kernel_rfl) 26 (.tmp 81) (by kernel_rfl) ⟨D, 1, none⟩ (by kernel_rfl) (fun w9 => load_i8 _ _ w9) (fun w9 h9 => (h9.2.1.cell 1))) hSd ?_
  simp only [Act.put, List.setIfInBounds_toArray, List.set_cons_succ, List.set_cons_zero]
  refine takeD 6 (some 83) (.pointer (some ⟨b, 0, none⟩)) (by kernel_rfl) (by kernel_rfl) (by kernel_rfl) (by kernel_rfl) (by kernel_rfl) (fun _ _ _ h => h) (yi_pure (v0 := .pointer (some ⟨b, 0, none⟩)) (by kernel_rfl) (fun _ => by kernel_rfl) rfl) hSd ?_
  simp only [Act.put, List.setIfInBounds_toArray, List.set_cons_succ, List.set_cons_zero]
  refine takeD 7 (some 84) (.pointer (some ⟨b, 0, none⟩)) (by kernel_rfl) (by kernel_rfl) (by kernel_rfl) (by kernel_rfl) (by kernel_rfl) (fun _ _ _ h => h) (yi_pure (v0 := .pointer (some ⟨b, 0, none⟩)) (by kernel_rfl) (fun _ => by kernel_rfl) rfl) hSd ?_
  simp only [Act.put, List.setIfInBounds_toArray, List.set_cons_succ, List.set_cons_zero]
  refine takeD 8 (some 85) (.pointer (some ⟨b, 1, none⟩)) (by kernel_rfl) (by kernel_rfl) (by kernel_rfl) (by kernel_rfl) (by kernel_rfl) (fun _ _ _ h => h) (yi_pure (v0 := .pointer (some ⟨b, 1, none⟩)) (by kernel_rfl) (fun _ => by kernel_rfl) rfl) hSd ?_
  simp only [Act.put, List.setIfInBounds_toArray, List.set_cons_succ, List.set_cons_zero]
  refine takeD 9 (some 86) (.pointer (some ⟨b, 1 + F, none⟩)) (by kernel_rfl) (by kernel_rfl) (by kernel_rfl) (by kernel_rfl) (by kernel_rfl) (fun _ _ _ h => h) (yi_pure (v0 := .pointer (some ⟨b, 1 + F, none⟩)) (by kernel_rfl) (fun w9 => A.exec_ix (.tmp 85) (.tmp 79) (n := F) (off := 1) (k := .i8) (by kernel_rfl) (by kernel_rfl) (by kernel_rfl) w9 hF64) rfl) hSd ?_
  simp only [Act.put, List.setIfInBounds_toArray, List.set_cons_succ, List.set_cons_zero]
  refine takeD 11 (some 87) (.pointer (some ⟨b, 0, none⟩)) (by kernel_rfl) (by kernel_rfl) (by kernel_rfl) (by kernel_rfl) (by kernel_rfl) (fun _ _ _ h => h) (yi_pure (v0 := .pointer (some ⟨b, 0, none⟩)) (by kernel_rfl) (fun _ => by kernel_rfl) rfl) hSd ?_
  simp only [Act.put, List.setIfInBounds_toArray, List.set_cons_succ, List.set_cons_zero]
  refine takeD 12 (some 88) (.pointer (some ⟨b, 0, none⟩)) (by kernel_rfl) (by kernel_rfl) (by kernel_rfl) (by kernel_rfl) (by kernel_rfl) (fun _ _ _ h => h) (yi_pure (v0 := .pointer (some ⟨b, 0, none⟩)) (by kernel_rfl) (fun _ => by kernel_rfl) rfl) hSd ?_
  simp only [Act.put, List.setIfInBounds_toArray, List.set_cons_succ, List.set_cons_zero]
  refine takeD 13 (some 89) (.pointer (some ⟨b, 1, none⟩)) (by kernel_rfl) (by kernel_rfl) (by kernel_rfl) (by kernel_rfl) (by kernel_rfl) (fun _ _ _ h => h) (yi_pure (v0 := .pointer (some ⟨b, 1, none⟩)) (by kernel_rfl) (fun _ => by kernel_rfl) rfl) hSd ?_
  simp only [Act.put, List.setIfInBounds_toArray, List.set_cons_succ, List.set_cons_zero]
  refine A.takeStoreQ 10 5 (.tmp 86) (.const (.int .u8 0)) (b := b) (j := 1 + F) (n := 0) (by kernel_rfl) (by kernel_rfl) (by kernel_rfl) (by kernel_rfl) (by kernel_rfl) (by kernel_rfl) (by kernel_rfl) (by omega) (pk_board hF64) Tryz.size_u8A hMd (fun u1 hPu1 hMu1 => ?_)
  have hSu1 : (∃ q', A.MvAt u1 b q' c ((F : Int), (G : Int), p, d, true) t) ∧ RowAt u1 D 40 #[.int .i8 (F : Int), .int .i8 (G : Int), .int .u8 p, .int .u8 d, .bool true] ∧ w.grownBy u1 (some b) := ⟨⟨_, hMu1⟩, hPu1.row hSd.2.1 hDb, A.put_grown hSd.2.2 hPu1⟩
  refine ⟨hSu1, ?_⟩
  clear hPu1
  refine takeD 14 (some 90) (.pointer (some ⟨b, 1 + G, none⟩)) (by kernel_rfl) (by kernel_rfl) (by kernel_rfl) (by kernel_rfl) (by kernel_rfl) (fun _ _ _ h => h) (yi_pure (v0 := .pointer (some ⟨b, 1 + G, none⟩)) (by kernel_rfl) (fun w9 => A.exec_ix (.tmp 89) (.tmp 82) (n := G) (off := 1) (k := .i8) (by kernel_rfl) (by kernel_rfl) (by kernel_rfl) w9 hG64) rfl) hSu1 ?_
  simp only [Act.put, List.setIfInBounds_toArray, List.set_cons_succ, List.set_cons_zero]
  refine A.takeStoreQ 15 5 (.tmp 90) (.const (.int .u8 0)) (b := b) (j := 1 + G) (n := 0) (by kernel_rfl) (by kernel_rfl) (by kernel_rfl) (by kernel_rfl) (by kernel_rfl) (by kernel_rfl) (by kernel_rfl) (by omega) (pk_board hG64) Tryz.size_u8A hMu1 (fun u2 hPu2 hMu2 => ?_)
  have hSu2 : (∃ q', A.MvAt u2 b q' c ((F : Int), (G : Int), p, d, true) t) ∧ RowAt u2 D 40 #[.int .i8 (F : Int), .int .i8 (G : Int), .int .u8 p, .int .u8 d, .bool true] ∧ w.grownBy u2 (some b) := ⟨⟨_, hMu2⟩, hPu2.row hSu1.2.1 hDb, A.put_grown hSu1.2.2 hPu2⟩
  refine ⟨hSu2, ?_⟩
  clear hPu2
  refine wpAnyH_done (by kernel_rfl) ?_ _
  have hMc := hMu2
  have hDc := hSu2.2.1
  have hGc := hSu2.2.2
  clear hSu1 hSu2 hMu1 hMu2 hSd hMd
  go_wp2_with fail
  refine wp_region_held (S := fun w' => (∃ q', A.MvAt w' b q' c ((F : Int), (G : Int), p, d, true) t) ∧ RowAt w' D 40 #[.int .i8 (F : Int), .int .i8 (G : Int), .int .u8 p, .int .u8 d, .bool true] ∧ w.grownBy w' (some b)) (by kernel_rfl) ?_
  have hMd : A.MvAt u2.drew b _ c ((F : Int), (G : Int), p, d, true) t := ⟨⟨hMc.row.heap⟩⟩
  have hSd : (∃ q', A.MvAt u2.drew b q' c ((F : Int), (G : Int), p, d, true) t) ∧ RowAt u2.drew D 40 #[.int .i8 (F : Int), .int .i8 (G : Int), .int .u8 p, .int .u8 d, .bool true] ∧ w.grownBy u2.drew (some b) := ⟨⟨_, hMd⟩, ⟨hDc.heap⟩, A.below_step hGc (M.below_drew (Below.refl _ _) 1)⟩
  clear hMc hDc hGc
  refine takeD 0 (some 91) (.pointer (some ⟨b, 0, none⟩)) (by kernel_rfl) (by kernel_rfl) (by kernel_rfl) (by kernel_rfl) (by kernel_rfl) (fun _ _ _ h => h) (yi_pure (v0 := .pointer (some ⟨b, 0, none⟩)) (by kernel_rfl) (fun _ => by kernel_rfl) rfl) hSd ?_
  simp only [Act.put, List.setIfInBounds_toArray, List.set_cons_succ, List.set_cons_zero]
  refine takeD 1 (some 92) (.int .i64 (kg : Int)) (by kernel_rfl) (by kernel_rfl) (by kernel_rfl) (by kernel_rfl) (by kernel_rfl) (fun _ _ _ h => h) (yi_pure (v0 := .int .i64 (kg : Int)) (by kernel_rfl) (fun _ => by kernel_rfl) rfl) hSd ?_
  simp only [Act.put, List.setIfInBounds_toArray, List.set_cons_succ, List.set_cons_zero]
  refine takeD 2 (some 93) (.pointer (some ⟨b, 0, none⟩)) (by kernel_rfl) (by kernel_rfl) (by kernel_rfl) (by kernel_rfl) (by kernel_rfl) (fun _ _ _ h => h) (yi_pure (v0 := .pointer (some ⟨b, 0, none⟩)) (by kernel_rfl) (fun _ => by kernel_rfl) rfl) hSd ?_
  simp only [Act.put, List.setIfInBounds_toArray, List.set_cons_succ, List.set_cons_zero]
  refine takeD 3 (some 94) (.int .i64 (rg : Int)) (by kernel_rfl) (by kernel_rfl) (by kernel_rfl) (by kernel_rfl) (by kernel_rfl) (fun _ _ _ h => h) (yi_pure (v0 := .int .i64 (rg : Int)) (by kernel_rfl) (fun _ => by kernel_rfl) rfl) hSd ?_
  simp only [Act.put, List.setIfInBounds_toArray, List.set_cons_succ, List.set_cons_zero]
  refine takeD 4 (some 95) (.pointer (some ⟨b, 0, none⟩)) (by kernel_rfl) (by kernel_rfl) (by kernel_rfl) (by kernel_rfl) (by kernel_rfl) (fun _ _ _ h => h) (yi_pure (v0 := .pointer (some ⟨b, 0, none⟩)) (by kernel_rfl) (fun _ => by kernel_rfl) rfl) hSd ?_
  simp only [Act.put, List.setIfInBounds_toArray, List.set_cons_succ, List.set_cons_zero]
  refine takeD 5 (some 96) (.pointer (some ⟨D, 0, none⟩)) (by kernel_rfl) (by kernel_rfl) (by kernel_rfl) (by kernel_rfl) (by kernel_rfl) (fun _ _ _ h => h) (yi_pure (v0 := .pointer (some ⟨D, 0, none⟩)) (by kernel_rfl) (fun _ => by kernel_rfl) rfl) hSd ?_
  simp only [Act.put, List.setIfInBounds_toArray, List.set_cons_succ, List.set_cons_zero]
  refine takeD 6 (some 97) (.int .i8 (F : Int)) (by kernel_rfl) (by kernel_rfl) (by kernel_rfl) (by kernel_rfl) (by kernel_rfl) (fun _ _ _ h => h) (yi_load (by kernel_rfl) 26 (.tmp 96) (by kernel_rfl) ⟨D, 0, none⟩ (by kernel_rfl) (fun w9 => load_i8 _ _ w9) (fun w9 h9 => (h9.2.1.cell 0))) hSd ?_
  simp only [Act.put, List.setIfInBounds_toArray, List.set_cons_succ, List.set_cons_zero]
  refine takeD 7 (some 98) (.pointer (some ⟨b, 0, none⟩)) (by kernel_rfl) (by kernel_rfl) (by kernel_rfl) (by kernel_rfl) (by kernel_rfl) (fun _ _ _ h => h) (yi_pure (v0 := .pointer (some ⟨b, 0, none⟩)) (by kernel_rfl) (fun _ => by kernel_rfl) rfl) hSd ?_
  simp only [Act.put, List.setIfInBounds_toArray, List.set_cons_succ, List.set_cons_zero]
  refine takeD 8 (some 99) (.pointer (some ⟨b, 88, none⟩)) (by kernel_rfl) (by kernel_rfl) (by kernel_rfl) (by kernel_rfl) (by kernel_rfl) (fun _ _ _ h => h) (yi_pure (v0 := .pointer (some ⟨b, 88, none⟩)) (by kernel_rfl) (fun _ => by kernel_rfl) rfl) hSd ?_
  simp only [Act.put, List.setIfInBounds_toArray, List.set_cons_succ, List.set_cons_zero]
  refine takeD 9 (some 100) (.pointer (some ⟨b, 89, none⟩)) (by kernel_rfl) (by kernel_rfl) (by kernel_rfl) (by kernel_rfl) (by kernel_rfl) (fun _ _ _ h => h) (yi_pure (v0 := .pointer (some ⟨b, 89, none⟩)) (by kernel_rfl) (fun _ => by kernel_rfl) rfl) hSd ?_
  simp only [Act.put, List.setIfInBounds_toArray, List.set_cons_succ, List.set_cons_zero]
  refine takeD 10 (some 101) (.pointer (some ⟨b, 89 + F, none⟩)) (by kernel_rfl) (by kernel_rfl) (by kernel_rfl) (by kernel_rfl) (by kernel_rfl) (fun _ _ _ h => h) (yi_pure (v0 := .pointer (some ⟨b, 89 + F, none⟩)) (by kernel_rfl) (fun w9 => A.exec_ix (.tmp 100) (.tmp 97) (n := F) (off := 89) (k := .i8) (by kernel_rfl) (by kernel_rfl) (by kernel_rfl) w9 hF64) rfl) hSd ?_
  simp only [Act.put, List.setIfInBounds_toArray, List.set_cons_succ, List.set_cons_zero]
  refine takeD 11 (some 102) (.int .u8 (c (1 + F))) (by kernel_rfl) (by kernel_rfl) (by kernel_rfl) (by kernel_rfl) (by kernel_rfl) (fun _ _ _ h => h) (yi_load (by kernel_rfl) 5 (.tmp 101) (by kernel_rfl) ⟨b, 89 + F, none⟩ (by kernel_rfl) (fun w9 => load_u8 _ _ w9) (fun w9 h9 => (A.was_cell h9.1 F hF64))) hSd ?_
  simp only [Act.put, List.setIfInBounds_toArray, List.set_cons_succ, List.set_cons_zero]
  refine takeD 12 (some 103) (.pointer (some ⟨b, 0, none⟩)) (by kernel_rfl) (by kernel_rfl) (by kernel_rfl) (by kernel_rfl) (by kernel_rfl) (fun _ _ _ h => h) (yi_pure (v0 := .pointer (some ⟨b, 0, none⟩)) (by kernel_rfl) (fun _ => by kernel_rfl) rfl) hSd ?_
  simp only [Act.put, List.setIfInBounds_toArray, List.set_cons_succ, List.set_cons_zero]
  refine takeD 13 (some 104) (.pointer (some ⟨D, 1, none⟩)) (by kernel_rfl) (by kernel_rfl) (by kernel_rfl) (by kernel_rfl) (by kernel_rfl) (fun _ _ _ h => h) (yi_pure (v0 := .pointer (some ⟨D, 1, none⟩)) (by kernel_rfl) (fun _ => by kernel_rfl) rfl) hSd ?_
  simp only [Act.put, List.setIfInBounds_toArray, List.set_cons_succ, List.set_cons_zero]
  refine takeD 14 (some 105) (.int .i8 (G : Int)) (by kernel_rfl) (by kernel_rfl) (by kernel_rfl) (by kernel_rfl) (by kernel_rfl) (fun _ _ _ h => h) (yi_load (by kernel_rfl) 26 (.tmp 104) (by kernel_rfl) ⟨D, 1, none⟩ (by kernel_rfl) (fun w9 => load_i8 _ _ w9) (fun w9 h9 => (h9.2.1.cell 1))) hSd ?_
  simp only [Act.put, List.setIfInBounds_toArray, List.set_cons_succ, List.set_cons_zero]
  refine takeD 15 (some 106) (.pointer (some ⟨b, 0, none⟩)) (by kernel_rfl) (by kernel_rfl) (by kernel_rfl) (by kernel_rfl) (by kernel_rfl) (fun _ _ _ h => h) (yi_pure (v0 := .pointer (some ⟨b, 0, none⟩)) (by kernel_rfl) (fun _ => by kernel_rfl) rfl) hSd ?_
  simp only [Act.put, List.setIfInBounds_toArray, List.set_cons_succ, List.set_cons_zero]
  refine takeD 16 (some 107) (.pointer (some ⟨b, 88, none⟩)) (by kernel_rfl) (by kernel_rfl) (by kernel_rfl) (by kernel_rfl) (by kernel_rfl) (fun _ _ _ h => h) (yi_pure (v0 := .pointer (some ⟨b, 88, none⟩)) (by kernel_rfl) (fun _ => by kernel_rfl) rfl) hSd ?_
  simp only [Act.put, List.setIfInBounds_toArray, List.set_cons_succ, List.set_cons_zero]
  refine takeD 17 (some 108) (.pointer (some ⟨b, 89, none⟩)) (by kernel_rfl) (by kernel_rfl) (by kernel_rfl) (by kernel_rfl) (by kernel_rfl) (fun _ _ _ h => h) (yi_pure (v0 := .pointer (some ⟨b, 89, none⟩)) (by kernel_rfl) (fun _ => by kernel_rfl) rfl) hSd ?_
  simp only [Act.put, List.setIfInBounds_toArray, List.set_cons_succ, List.set_cons_zero]
  refine takeD 18 (some 109) (.pointer (some ⟨b, 89 + G, none⟩)) (by kernel_rfl) (by kernel_rfl) (by kernel_rfl) (by kernel_rfl) (by kernel_rfl) (fun _ _ _ h => h) (yi_pure (v0 := .pointer (some ⟨b, 89 + G, none⟩)) (by kernel_rfl) (fun w9 => A.exec_ix (.tmp 108) (.tmp 105) (n := G) (off := 89) (k := .i8) (by kernel_rfl) (by kernel_rfl) (by kernel_rfl) w9 hG64) rfl) hSd ?_
  simp only [Act.put, List.setIfInBounds_toArray, List.set_cons_succ, List.set_cons_zero]
  refine takeD 19 (some 110) (.int .u8 (c (1 + G))) (by kernel_rfl) (by kernel_rfl) (by kernel_rfl) (by kernel_rfl) (by kernel_rfl) (fun _ _ _ h => h) (yi_load (by kernel_rfl) 5 (.tmp 109) (by kernel_rfl) ⟨b, 89 + G, none⟩ (by kernel_rfl) (fun w9 => load_u8 _ _ w9) (fun w9 h9 => (A.was_cell h9.1 G hG64))) hSd ?_
  simp only [Act.put, List.setIfInBounds_toArray, List.set_cons_succ, List.set_cons_zero]
  refine takeD 20 (some 111) (.pointer (some ⟨b, 0, none⟩)) (by kernel_rfl) (by kernel_rfl) (by kernel_rfl) (by kernel_rfl) (by kernel_rfl) (fun _ _ _ h => h) (yi_pure (v0 := .pointer (some ⟨b, 0, none⟩)) (by kernel_rfl) (fun _ => by kernel_rfl) rfl) hSd ?_
  simp only [Act.put, List.setIfInBounds_toArray, List.set_cons_succ, List.set_cons_zero]
  refine takeD 21 (some 112) (.pointer (some ⟨b, 0, none⟩)) (by kernel_rfl) (by kernel_rfl) (by kernel_rfl) (by kernel_rfl) (by kernel_rfl) (fun _ _ _ h => h) (yi_pure (v0 := .pointer (some ⟨b, 0, none⟩)) (by kernel_rfl) (fun _ => by kernel_rfl) rfl) hSd ?_
  simp only [Act.put, List.setIfInBounds_toArray, List.set_cons_succ, List.set_cons_zero]
  refine takeD 22 (some 113) (.pointer (some ⟨b, 1, none⟩)) (by kernel_rfl) (by kernel_rfl) (by kernel_rfl) (by kernel_rfl) (by kernel_rfl) (fun _ _ _ h => h) (yi_pure (v0 := .pointer (some ⟨b, 1, none⟩)) (by kernel_rfl) (fun _ => by kernel_rfl) rfl) hSd ?_
  simp only [Act.put, List.setIfInBounds_toArray, List.set_cons_succ, List.set_cons_zero]
  refine takeD 23 (some 114) (.pointer (some ⟨b, 1 + kg, none⟩)) (by kernel_rfl) (by kernel_rfl) (by kernel_rfl) (by kernel_rfl) (by kernel_rfl) (fun _ _ _ h => h) (yi_pure (v0 := .pointer (some ⟨b, 1 + kg, none⟩)) (by kernel_rfl) (fun w9 => A.exec_ix (.tmp 113) (.tmp 92) (n := kg) (off := 1) (k := .i64) (by kernel_rfl) (by kernel_rfl) (by kernel_rfl) w9 hkg64) rfl) hSd ?_
  simp only [Act.put, List.setIfInBounds_toArray, List.set_cons_succ, List.set_cons_zero]
  refine takeD 25 (some 115) (.pointer (some ⟨b, 0, none⟩)) (by kernel_rfl) (by kernel_rfl) (by kernel_rfl) (by kernel_rfl) (by kernel_rfl) (fun _ _ _ h => h) (yi_pure (v0 := .pointer (some ⟨b, 0, none⟩)) (by kernel_rfl) (fun _ => by kernel_rfl) rfl) hSd ?_
  simp only [Act.put, List.setIfInBounds_toArray, List.set_cons_succ, List.set_cons_zero]
  refine takeD 26 (some 116) (.pointer (some ⟨b, 0, none⟩)) (by kernel_rfl) (by kernel_rfl) (by kernel_rfl) (by kernel_rfl) (by kernel_rfl) (fun _ _ _ h => h) (yi_pure (v0 := .pointer (some ⟨b, 0, none⟩)) (by kernel_rfl) (fun _ => by kernel_rfl) rfl) hSd ?_
  simp only [Act.put, List.setIfInBounds_toArray, List.set_cons_succ, List.set_cons_zero]
  refine takeD 27 (some 117) (.pointer (some ⟨b, 1, none⟩)) (by kernel_rfl) (by kernel_rfl) (by kernel_rfl) (by kernel_rfl) (by kernel_rfl) (fun _ _ _ h => h) (yi_pure (v0 := .pointer (some ⟨b, 1, none⟩)) (by kernel_rfl) (fun _ => by kernel_rfl) rfl) hSd ?_
  simp only [Act.put, List.setIfInBounds_toArray, List.set_cons_succ, List.set_cons_zero]
  refine A.takeStoreQ 24 5 (.tmp 114) (.tmp 102) (b := b) (j := 1 + kg) (n := (c (1 + F))) (by kernel_rfl) (by kernel_rfl) (by kernel_rfl) (by kernel_rfl) (by kernel_rfl) (by kernel_rfl) (by kernel_rfl) (by omega) (pk_board hkg64) Tryz.size_u8A hMd (fun u3 hPu3 hMu3 => ?_)
  have hSu3 : (∃ q', A.MvAt u3 b q' c ((F : Int), (G : Int), p, d, true) t) ∧ RowAt u3 D 40 #[.int .i8 (F : Int), .int .i8 (G : Int), .int .u8 p, .int .u8 d, .bool true] ∧ w.grownBy u3 (some b) := ⟨⟨_, hMu3⟩, hPu3.row hSd.2.1 hDb, A.put_grown hSd.2.2 hPu3⟩
  refine ⟨hSu3, ?_⟩
  clear hPu3
  refine takeD 28 (some 118) (.pointer (some ⟨b, 1 + rg, none⟩)) (by kernel_rfl) (by kernel_rfl) (by kernel_rfl) (by kernel_rfl) (by kernel_rfl) (fun _ _ _ h => h) (yi_pure (v0 := .pointer (some ⟨b, 1 + rg, none⟩)) (by kernel_rfl) (fun w9 => A.exec_ix (.tmp 117) (.tmp 94) (n := rg) (off := 1) (k := .i64) (by kernel_rfl) (by kernel_rfl) (by kernel_rfl) w9 hrg64) rfl) hSu3 ?_
  simp only [Act.put, List.setIfInBounds_toArray, List.set_cons_succ, List.set_cons_zero]
  refine A.takeStoreQ 29 5 (.tmp 118) (.tmp 110) (b := b) (j := 1 + rg) (n := (c (1 + G))) (by kernel_rfl) (by kernel_rfl) (by kernel_rfl) (by kernel_rfl) (by kernel_rfl) (by kernel_rfl) (by kernel_rfl) (by omega) (pk_board hrg64) Tryz.size_u8A hMu3 (fun u4 hPu4 hMu4 => ?_)
  have hSu4 : (∃ q', A.MvAt u4 b q' c ((F : Int), (G : Int), p, d, true) t) ∧ RowAt u4 D 40 #[.int .i8 (F : Int), .int .i8 (G : Int), .int .u8 p, .int .u8 d, .bool true] ∧ w.grownBy u4 (some b) := ⟨⟨_, hMu4⟩, hPu4.row hSu3.2.1 hDb, A.put_grown hSu3.2.2 hPu4⟩
  refine ⟨hSu4, ?_⟩
  clear hPu4
  refine wpAnyH_done (by kernel_rfl) ?_ _
  have hMc := hMu4
  have hGc := hSu4.2.2
  clear hSu3 hSu4 hMu3 hMu4 hSd hMd
  go_wp2_with fail
  first | refine bodyPost_end (results_none rfl _ _ _) rfl ?_ | refine bodyPost_ret (results_none rfl _ _ _) rfl ?_
  exact ⟨rfl, ⟨by rw [E.out]; exact hMc, hGc⟩⟩
end Go.Proofs.YtgkndhpolcnjbaaGreatDoor
