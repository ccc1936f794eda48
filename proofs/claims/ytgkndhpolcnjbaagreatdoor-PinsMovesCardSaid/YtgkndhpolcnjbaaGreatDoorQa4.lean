/- Several texts in one: AfE, AfU, AfP, AfV. -/

import Derived.Test.YtgkndhpolcnjbaaGreatDoorQi
import Derived.Test.YtgkndhpolcnjbaaGreatDoorQl
import Derived.Test.YtgkndhpolcnjbaaGreatDoorQh
namespace Go.Proofs.YtgkndhpolcnjbaaGreatDoor
open Go.RowKit Go.Sort
attribute [local go_sem] Oper.semAt_some
section
variable {P : Program} {ops : Array Oper} {Q : Exit → Act → World → Prop} {md : Region.Mode} {S : World → Prop} {fuel : Nat} {listed : Array Bool} {a : Act} {w : World}
/-- The one operation that may come up is a call, whose result is not fixed. -/
theorem takeCallE (i : Nat) (d : Option Tmp) (f : FuncId) (args : Array Value) (R : Value → World → Prop) (ho : Nat.blt i ops.size = true) (hr : Region.ready md ops listed = [i]) (hw : Region.wanted (ops.getD i default) (yielded ops a.tmps) = true)
    (hd : (ops.getD i default).dst = d) (he : (execOp a.eval (ops.getD i default)).run P w = .ok (.enter f args) w)
    (hc : Calls P f args w fun e w' => ∃ v, e = .returned v ∧ R v w') (h : ∀ v w', R v w' → S w' ∧ wpAnyH P md ops Q S fuel (listed.setIfInBounds i true) (a.put d v) w') : wpAnyH P md ops Q S (fuel + 1) listed a w := by
  refine takeOne i ho hr hw ?_
  unfold Oper.wp
  rw [he]
  show Calls P f args w _
  refine hc.mono ?_
  rintro e w' ⟨v, rfl, hR⟩
  rw [hd]
  exact h v w' hR
end
theorem A.owns_ne {w : World} {base : Nat} {e : TypeId} {s : Nat} {v : Value} {n : Nat} {xs : List Value} {b : Nat} (h : w.ownsRow base e s v n xs) (hb : b < base) : v.ownBlock ≠ some b := by
  rcases h.2 with ⟨e, _⟩ | ⟨g, cap, cur, e, hg, _⟩
  · rw [e]; exact fun h => by cases h
  · rw [e]; exact fun h => by cases h; exact absurd hg (Nat.not_le.2 hb)
theorem A.wipe_snoc (l : List Nat) (q : Nat → Int) (a : Nat) : A.wipe q (l ++ [a]) = upd (A.wipe q l) (1 + a) 0 := by
  induction l generalizing q with
  | nil => rfl
  | cons s l ih => exact ih _
set_option maxRecDepth 100000 in
set_option maxHeartbeats 4000000 in
theorem mblow_any (q c : Nat → Int) (f : Int) (G : Nat) (p d : Int) (ca : Bool) (t : Int) (b : Nat) (w0 w : World) (hM : A.MvAt w b q c (f, (G : Int), p, d, ca) t) (hC : A.Ctx w0 w b) (hG : G < 64) (hq : BdOk q) :
    Calls Tryz.prog 64 #[.pointer (some ⟨b, 0, none⟩)] w fun e w' => e = .returned (.tuple #[]) ∧ A.Step b (A.blow q (f, (G : Int), p, d, ca) t) c (f, (G : Int), p, d, ca) t w w' := by
  have h0 : w.cell? ⟨b, 0, none⟩ = some (.int .u8 (q 0)) := hM.atq 0 (by decide) .u8 rfl
  have h181 := hM.att
  cases d1 : (q 0 != 3)
  · cases d2 : decide (t < 0)
    · have E := Lib.hid (show A.blow q (f, (G : Int), p, d, ca) t = A.wipe q (B.list (A.blown q (G : Int))) by
        unfold A.blow
        rw [if_neg (fun h => h.elim (fun h => h (by simpa using d1)) (fun h => of_decide_eq_false d2 h))])
      have HBn : Hid (∀ W, Calls Tryz.prog 16 #[.agg (posC q), .int .i64 (G : Int)] W fun e w' => e = .returned (.int .u64 (U (A.blown q (G : Int)))) ∧ Below W.heap.size W w') := Lib.hid (fun W => by
        have := blown_any q (G : Int) W hq
        unfold A.blownV at this
        rwa [if_pos (by omega)] at this)
      have hp31 := Tryz.underlying31
      have hw64 : IntKind.i64.wrap (G : Int) = (G : Int) := by rw [IntKind.wrap_i64]; omega
      have hlt0 := hM.lt
      go_enter Tryz.func64, Tryz.ntmps64
      go_wp2_with fail
      refine wp_region_held (S := fun w' => A.MvAt w' b q c (f, (G : Int), p, d, ca) t ∧ w.grownBy w' (some b)) (by kernel_rfl) ?_
      have hSd : A.MvAt w.drew b q c (f, (G : Int), p, d, ca) t ∧ w.grownBy w.drew (some b) := ⟨⟨⟨hM.row.heap⟩⟩, ⟨rfl, rfl, rfl, Nat.le_refl _, fun _ _ _ => rfl⟩⟩
      have hTd : Tb w.drew := tb_below hC.tb' (M.below_drew (Below.refl _ _) 1)
      clear hM h0 h181 hlt0
      refine takeD 0 (some 17) (.pointer (some ⟨b, 0, none⟩)) (by kernel_rfl) (by kernel_rfl) (by kernel_rfl) (by kernel_rfl) (by kernel_rfl) (fun _ _ _ h => h) (yi_pure (v0 := .pointer (some ⟨b, 0, none⟩)) (by kernel_rfl) (fun _ => by kernel_rfl) rfl) hSd ?_
      simp only [Act.put, List.setIfInBounds_toArray, List.set_cons_succ, List.set_cons_zero]
      refine takeD 1 (some 18) (.pointer (some ⟨b, 0, none⟩)) (by kernel_rfl) (by kernel_rfl) (by kernel_rfl) (by kernel_rfl) (by kernel_rfl) (fun _ _ _ h => h) (yi_pure (v0 := .pointer (some ⟨b, 0, none⟩)) (by kernel_rfl) (fun _ => by kernel_rfl) rfl) hSd ?_
      simp only [Act.put, List.setIfInBounds_toArray, List.set_cons_succ, List.set_cons_zero]
      refine takeD 2 (some 19) (.pointer (some ⟨b, 0, none⟩)) (by kernel_rfl) (by kernel_rfl) (by kernel_rfl) (by kernel_rfl) (by kernel_rfl) (fun _ _ _ h => h) (yi_pure (v0 := .pointer (some ⟨b, 0, none⟩)) (by kernel_rfl) (fun _ => by kernel_rfl) rfl) hSd ?_
      simp only [Act.put, List.setIfInBounds_toArray, List.set_cons_succ, List.set_cons_zero]
      refine takeD 3 (some 20) (.agg (posC q)) (by kernel_rfl) (by kernel_rfl) (by kernel_rfl) (by kernel_rfl) (by kernel_rfl) (fun _ _ _ h => h) (yieldsIf_load_mid (by kernel_rfl) 31 (.tmp 19) (by kernel_rfl) b 0 (by kernel_rfl) (posL q) _ (fun _ h => h.1.rq) hp31 rfl (A.posL_info q)) hSd ?_
      simp only [Act.put, List.setIfInBounds_toArray, List.set_cons_succ, List.set_cons_zero]
      refine takeD 4 (some 21) (.pointer (some ⟨b, 0, none⟩)) (by kernel_rfl) (by kernel_rfl) (by kernel_rfl) (by kernel_rfl) (by kernel_rfl) (fun _ _ _ h => h) (yi_pure (v0 := .pointer (some ⟨b, 0, none⟩)) (by kernel_rfl) (fun _ => by kernel_rfl) rfl) hSd ?_
      simp only [Act.put, List.setIfInBounds_toArray, List.set_cons_succ, List.set_cons_zero]
      refine takeD 5 (some 22) (.pointer (some ⟨b, 0, none⟩)) (by kernel_rfl) (by kernel_rfl) (by kernel_rfl) (by kernel_rfl) (by kernel_rfl) (fun _ _ _ h => h) (yi_pure (v0 := .pointer (some ⟨b, 0, none⟩)) (by kernel_rfl) (fun _ => by kernel_rfl) rfl) hSd ?_
      simp only [Act.put, List.setIfInBounds_toArray, List.set_cons_succ, List.set_cons_zero]
      refine takeD 6 (some 23) (.pointer (some ⟨b, 176, none⟩)) (by kernel_rfl) (by kernel_rfl) (by kernel_rfl) (by kernel_rfl) (by kernel_rfl) (fun _ _ _ h => h) (yi_pure (v0 := .pointer (some ⟨b, 176, none⟩)) (by kernel_rfl) (fun _ => by kernel_rfl) rfl) hSd ?_
      simp only [Act.put, List.setIfInBounds_toArray, List.set_cons_succ, List.set_cons_zero]
      refine takeD 7 (some 24) (.pointer (some ⟨b, 177, none⟩)) (by kernel_rfl) (by kernel_rfl) (by kernel_rfl) (by kernel_rfl) (by kernel_rfl) (fun _ _ _ h => h) (yi_pure (v0 := .pointer (some ⟨b, 177, none⟩)) (by kernel_rfl) (fun _ => by kernel_rfl) rfl) hSd ?_
      simp only [Act.put, List.setIfInBounds_toArray, List.set_cons_succ, List.set_cons_zero]
      refine takeD 8 (some 25) (.int .i8 (G : Int)) (by kernel_rfl) (by kernel_rfl) (by kernel_rfl) (by kernel_rfl) (by kernel_rfl) (fun _ _ _ h => h) (yi_load (by kernel_rfl) 26 (.tmp 24) (by kernel_rfl) ⟨b, 177, none⟩ (by kernel_rfl) (fun w9 => load_i8 _ _ w9) (fun w9 h9 => h9.1.atm 1 _ rfl)) hSd ?_
      simp only [Act.put, List.setIfInBounds_toArray, List.set_cons_succ, List.set_cons_zero]
      refine takeD 9 (some 26) (.int .i64 (G : Int)) (by kernel_rfl) (by kernel_rfl) (by kernel_rfl) (by kernel_rfl) (by kernel_rfl) (fun _ _ _ h => h) (yi_pure (v0 := .int .i64 (IntKind.i64.wrap (G : Int))) (by kernel_rfl) (fun _ => by kernel_rfl) (by rw [hw64])) hSd ?_
      simp only [Act.put, List.setIfInBounds_toArray, List.set_cons_succ, List.set_cons_zero]
      refine takeD 13 (some 30) (.int .i64 0) (by kernel_rfl) (by kernel_rfl) (by kernel_rfl) (by kernel_rfl) (by kernel_rfl) (fun _ _ _ h => h) (yi_pure (v0 := .int .i64 0) (by kernel_rfl) (fun _ => by kernel_rfl) rfl) hSd ?_
      simp only [Act.put, List.setIfInBounds_toArray, List.set_cons_succ, List.set_cons_zero]
      refine takeCall 10 (some 27) 16 (#[.agg (posC q), .int .i64 (G : Int)]) (.int .u64 (U (A.blown q (G : Int)))) (fun w9 => Below w.drew.heap.size w.drew w9) (by kernel_rfl) (by kernel_rfl) (by kernel_rfl) (by kernel_rfl) (by kernel_rfl) (HBn.out _) (fun u1 hRu1 => ?_)
      simp only [Act.put, List.setIfInBounds_toArray, List.set_cons_succ, List.set_cons_zero]
      have hS1 : A.MvAt u1 b q c (f, (G : Int), p, d, ca) t ∧ w.grownBy u1 (some b) := ⟨hSd.1.below hRu1, A.below_step hSd.2 hRu1⟩
      have hT1 := tb_below hTd hRu1
      clear hSd hRu1 hTd
      refine ⟨hS1, ?_⟩
      refine takeCallE 11 (some 28) 111 (#[.int .u64 (U (A.blown q (G : Int)))]) (fun v w9 => w9.ownsRow u1.heap.size 3 1 v (B.list (A.blown q (G : Int))).length (B.ints (B.list (A.blown q (G : Int)))) ∧ Below u1.heap.size u1 w9) (by kernel_rfl) (by kernel_rfl) (by kernel_rfl) (by kernel_rfl) (by kernel_rfl) (blist_any _ _ hT1) (fun v w2 hR2 => ?_)
      simp only [Act.put, List.setIfInBounds_toArray, List.set_cons_succ, List.set_cons_zero]
      have hS2 : A.MvAt w2 b q c (f, (G : Int), p, d, ca) t ∧ w.grownBy w2 (some b) := ⟨hS1.1.below hR2.2, A.below_step hS1.2 hR2.2⟩
      refine ⟨hS2, ?_⟩
      have hbu := hS1.1.lt
      obtain ⟨hown, hb2⟩ := hR2
      obtain ⟨LA, hLA⟩ : ∃ LA, B.list (A.blown q (G : Int)) = LA := ⟨_, rfl⟩
      have hLm := Blist_lt (A.blown q (G : Int))
      have hL64 := B.list_len (A.blown q (G : Int))
      rw [hLA] at hown hLm hL64 E
      obtain ⟨ao, cap, rfl, hcap, hcm, hao⟩ := row_open1 hown
      clear hao hT1 hb2 hS1
      refine takeD 12 (some 29) (.int .i64 (LA.length : Int)) (by kernel_rfl) (by kernel_rfl) (by kernel_rfl) (by kernel_rfl) (by kernel_rfl) (fun _ _ _ h => h) (yi_pure (v0 := .int .i64 (LA.length : Int)) (by kernel_rfl) (fun _ => by kernel_rfl) rfl) hS2 ?_
      simp only [Act.put, List.setIfInBounds_toArray, List.set_cons_succ, List.set_cons_zero]
      refine wpAnyH_done (by kernel_rfl) ?_ _
      have HM2 := Lib.hid hS2.1
      have HG2 := Lib.hid hS2.2
      have HO := Lib.hid hown
      have HL := Lib.hid hLm
      have HU := Lib.hid hbu
      clear hS2 hown hLm hbu
      go_wp2_with fail
      go_loopw [30] (fun vi wr => ∃ k : Nat, k ≤ LA.length ∧ vi = .int .i64 (k : Int) ∧ A.MvAt wr b (A.wipe q (LA.take k)) c (f, (G : Int), p, d, ca) t ∧ w.grownBy wr (some b) ∧ wr.ownsRow u1.heap.size 3 1 (.slice ao LA.length cap) LA.length (B.ints LA)) (fun vi _ => LA.length - (intOf vi).toNat)
      case atStart => exact ⟨0, Nat.zero_le _, rfl, HM2.out, HG2.out, HO.out⟩
      case round =>
        obtain ⟨k, hk, rfl, hMk, hGk, hOk⟩ := hrel
        by_cases hlt : k < LA.length
        · obtain ⟨a, ha⟩ : ∃ a, LA[k]? = some a := ⟨LA[k], List.getElem?_eq_getElem hlt⟩
          have ha64 := HL.out k a ha
          obtain ⟨ao2, cap2, e2, _, _, hao2⟩ := row_open1 hOk
          cases e2
          obtain ⟨kb, rfl, hkb1, hkb2, hcell⟩ := hao2 (by omega)
          have hc1 := hcell k _ (ints_at LA k a ha)
          have HN := Lib.hid (And.intro hGk (And.intro hOk hkb1))
          have HA := Lib.hid ha
          clear hGk hOk hao2 hcell ha
          go_wp2_with ((with_reducible refine wpl_store_mq rfl _ _ _ rfl ?_); refine ⟨b, _, _, c, _, t, 0, .u8, rfl, rfl, (by omega), pk_board ha64, Tryz.size_u8A, hMk, ?_⟩; intro W1 hP1 hM1)
          have hne : b ≠ kb := by have := HN.out.2.2; have := HU.out; omega
          have HR := Lib.hid (And.intro (A.put_grown HN.out.1 hP1) (hP1.owns HN.out.2.1 (A.owns_ne HN.out.2.1 HU.out)))
          have HM3 : Hid (A.MvAt W1 b (A.wipe q (LA.take (k + 1))) c (f, (G : Int), p, d, ca) t) := Lib.hid (by
            rw [take_snocM LA k a HA.out, A.wipe_snoc]; exact hM1)
          clear hM1 hMk hP1 hc1
          go_roundw
          case rel => exact ⟨k + 1, by omega, by go_num, HM3.out, HR.out.1, HR.out.2⟩
          case measure => simp [intOf]; omega
        · obtain rfl : k = LA.length := by omega
          rw [List.take_length] at hMk
          go_wp2
          first | refine bodyPost_end (results_none rfl _ _ _) rfl ?_ | refine bodyPost_ret (results_none rfl _ _ _) rfl ?_
          exact ⟨rfl, ⟨by rw [E.out]; exact hMk, hGk⟩⟩
    · have E := Lib.hid (show A.blow q (f, (G : Int), p, d, ca) t = q by unfold A.blow; rw [if_pos (.inr (of_decide_eq_true d2))])
      clear hq
      go_enter Tryz.func64, Tryz.ntmps64
      go_wp2
      first | refine bodyPost_end (results_none rfl _ _ _) rfl ?_ | refine bodyPost_ret (results_none rfl _ _ _) rfl ?_
      exact ⟨rfl, ⟨by rw [E.out]; exact hM, World.grownBy.refl _ _⟩⟩
  · have E := Lib.hid (show A.blow q (f, (G : Int), p, d, ca) t = q by unfold A.blow; rw [if_pos (.inl (by simpa using d1))])
    clear hq
    go_enter Tryz.func64, Tryz.ntmps64
    go_wp2
    first | refine bodyPost_end (results_none rfl _ _ _) rfl ?_ | refine bodyPost_ret (results_none rfl _ _ _) rfl ?_
    exact ⟨rfl, ⟨by rw [E.out]; exact hM, World.grownBy.refl _ _⟩⟩
end Go.Proofs.YtgkndhpolcnjbaaGreatDoor
namespace Go.Proofs.YtgkndhpolcnjbaaGreatDoor
open Go.RowKit Go.Sort
attribute [local go_sem] Oper.semAt_some
theorem A.turn_same (q : Nat → Int) (h : ¬ (q 0 = 5 ∧ q (84 + (q 78).toNat) < 3 ∧ K.check (A.turn0 q) (1 - q 78) = true)) : A.turn q = upd q 78 (1 - q 78) := by
  unfold A.turn; rw [if_neg h]; rfl
theorem A.turn_more (q : Nat → Int) (h : q 0 = 5 ∧ q (84 + (q 78).toNat) < 3 ∧ K.check (A.turn0 q) (1 - q 78) = true) : A.turn q = upd (upd q 78 (1 - q 78)) (84 + (q 78).toNat) (q (84 + (q 78).toNat) + 1) := by
  unfold A.turn; rw [if_pos h]; rfl
set_option maxRecDepth 100000 in
set_option maxHeartbeats 1000000 in
theorem mturn_00 (q c : Nat → Int) (m : Mv) (t : Int) (b : Nat) (w0 w : World) (hM : A.MvAt w b q c m t) (hC : A.Ctx w0 w b) (hq : PosOk q) (h78 : q 78 = 0) (dv : (q 0 == 5) = false) :
    Calls Tryz.prog 68 #[.pointer (some ⟨b, 0, none⟩)] w fun e w' => e = .returned (.tuple #[]) ∧ A.Step b (A.turn q) c m t w w' := by
  have B84 := Lib.hid (pos_u8 hq (i := 84) (by decide) rfl)
  have E := Lib.hid (show A.turn q = (upd q 78 1) by rw [A.turn_same q (fun h => by rw [h.1] at dv; cases dv), h78]; rfl)
  have c78 : w.cell? ⟨b, 78, none⟩ = some (.int .u8 0) := by rw [← h78]; exact hM.atq 78 (by decide) .u8 rfl
  have CT := Lib.hid hC
  have hp31 := Tryz.underlying31
  have hw1 : IntKind.u8.wrap (1 - 0) = 1 := by decide
  have G0 := Lib.hid (World.grownBy.refl w (some b))
  clear hq hC h78
  go_enter Tryz.func68, Tryz.ntmps68
  go_upto_region 1 with (first
    | ((with_reducible refine wpl_store_mq rfl _ _ _ rfl ?_); refine ⟨b, 78, q, c, _, t, 1, .u8, rfl, rfl, by decide, rfl, Tryz.size_u8A, hM, ?_⟩; intro W1 hP1 hM1))
  have G1 := Lib.hid (A.put_grown G0.out hP1)
  have CT1 := Lib.hid (CT.out.put hP1)
  have d78 : W1.cell? ⟨b, 78, none⟩ = some (.int .u8 1) := hM1.atq 78 (by decide) .u8 rfl
  have h0 : W1.cell? ⟨b, 0, none⟩ = some (.int .u8 (q 0)) := hM1.atq 0 (by decide) .u8 rfl
  have h84 : W1.cell? ⟨b, 84, none⟩ = some (.int .u8 (q 84)) := hM1.atq 84 (by decide) .u8 rfl
  have hrg := hM1.rq
  have hTW := CT1.out.tb'
  have hbl := hM1.lt
  clear c78 hM hP1 G0
  go_wp2_with fail
  refine region_below (by kernel_rfl) (by kernel_rfl) ?_
  repeat (first
    | (go_big_quiet_want; refine quiet_load_mid 31 _ rfl hp31 rfl ⟨b, 0, posL (upd q 78 1), rfl, hrg, A.posL_info _, ?_⟩; simp only [Act.put, List.setIfInBounds_toArray, List.set_cons_succ, List.set_cons_zero]; go_big_quiet_on)
    | go_big_quiet_step (first
      | (go_at_call 88; exact quiet_below (HK.out _ (tb_grow hTW)))))
  refine wpQuiet_nil ?_
  intro w3 hb3
  have G2 := Lib.hid (A.below_step G1.out hb3)
  have hM2 := hM1.below hb3
  clear d78 h0 h84 hrg hTW hM1 hbl
  go_wp2
  refine bodyPost_end (results_none rfl _ _ _) rfl ?_
  exact ⟨rfl, ⟨by rw [E.out]; exact hM2, G2.out⟩⟩
set_option maxRecDepth 100000 in
set_option maxHeartbeats 1000000 in
theorem mturn_01 (q c : Nat → Int) (m : Mv) (t : Int) (b : Nat) (w0 w : World) (hM : A.MvAt w b q c m t) (hC : A.Ctx w0 w b) (hq : PosOk q) (h78 : q 78 = 0) (dv : (q 0 == 5) = true) (dc : decide (q 84 < 3) = false) :
    Calls Tryz.prog 68 #[.pointer (some ⟨b, 0, none⟩)] w fun e w' => e = .returned (.tuple #[]) ∧ A.Step b (A.turn q) c m t w w' := by
  have B84 := Lib.hid (pos_u8 hq (i := 84) (by decide) rfl)
  have E := Lib.hid (show A.turn q = (upd q 78 1) by rw [A.turn_same q (fun h => by have h2 := h.2.1; rw [h78] at h2; exact of_decide_eq_false dc h2), h78]; rfl)
  have c78 : w.cell? ⟨b, 78, none⟩ = some (.int .u8 0) := by rw [← h78]; exact hM.atq 78 (by decide) .u8 rfl
  have CT := Lib.hid hC
  have hp31 := Tryz.underlying31
  have hw1 : IntKind.u8.wrap (1 - 0) = 1 := by decide
  have G0 := Lib.hid (World.grownBy.refl w (some b))
  clear hq hC h78
  go_enter Tryz.func68, Tryz.ntmps68
  go_upto_region 1 with (first
    | ((with_reducible refine wpl_store_mq rfl _ _ _ rfl ?_); refine ⟨b, 78, q, c, _, t, 1, .u8, rfl, rfl, by decide, rfl, Tryz.size_u8A, hM, ?_⟩; intro W1 hP1 hM1))
  have G1 := Lib.hid (A.put_grown G0.out hP1)
  have CT1 := Lib.hid (CT.out.put hP1)
  have d78 : W1.cell? ⟨b, 78, none⟩ = some (.int .u8 1) := hM1.atq 78 (by decide) .u8 rfl
  have h0 : W1.cell? ⟨b, 0, none⟩ = some (.int .u8 (q 0)) := hM1.atq 0 (by decide) .u8 rfl
  have h84 : W1.cell? ⟨b, 84, none⟩ = some (.int .u8 (q 84)) := hM1.atq 84 (by decide) .u8 rfl
  have hrg := hM1.rq
  have hTW := CT1.out.tb'
  have hbl := hM1.lt
  clear c78 hM hP1 G0
  go_wp2_with fail
  refine region_below (by kernel_rfl) (by kernel_rfl) ?_
  repeat (first
    | (go_big_quiet_want; refine quiet_load_mid 31 _ rfl hp31 rfl ⟨b, 0, posL (upd q 78 1), rfl, hrg, A.posL_info _, ?_⟩; simp only [Act.put, List.setIfInBounds_toArray, List.set_cons_succ, List.set_cons_zero]; go_big_quiet_on)
    | go_big_quiet_step (first
      | (go_at_call 88; exact quiet_below (HK.out _ (tb_grow hTW)))))
  refine wpQuiet_nil ?_
  intro w3 hb3
  have G2 := Lib.hid (A.below_step G1.out hb3)
  have hM2 := hM1.below hb3
  clear d78 h0 h84 hrg hTW hM1 hbl
  go_wp2
  refine bodyPost_end (results_none rfl _ _ _) rfl ?_
  exact ⟨rfl, ⟨by rw [E.out]; exact hM2, G2.out⟩⟩
set_option maxRecDepth 100000 in
set_option maxHeartbeats 1000000 in
theorem mturn_02 (q c : Nat → Int) (m : Mv) (t : Int) (b : Nat) (w0 w : World) (hM : A.MvAt w b q c m t) (hC : A.Ctx w0 w b) (hq : PosOk q) (h78 : q 78 = 0) (dv : (q 0 == 5) = true) (dc : decide (q 84 < 3) = true) (dk : K.check (upd q 78 1) 1 = false) :
    Calls Tryz.prog 68 #[.pointer (some ⟨b, 0, none⟩)] w fun e w' => e = .returned (.tuple #[]) ∧ A.Step b (A.turn q) c m t w w' := by
  have B84 := Lib.hid (pos_u8 hq (i := 84) (by decide) rfl)
  have E := Lib.hid (show A.turn q = (upd q 78 1) by rw [A.turn_same q (fun h => by have h2 := h.2.2; unfold A.turn0 at h2; rw [h78] at h2; exact Bool.noConfusion (dk.symm.trans h2)), h78]; rfl)
  have c78 : w.cell? ⟨b, 78, none⟩ = some (.int .u8 0) := by rw [← h78]; exact hM.atq 78 (by decide) .u8 rfl
  have HK : Hid (∀ W, Tb W → Calls Tryz.prog 88 #[.agg (posC (upd q 78 1)), .int .u8 1] W fun e w' => e = .returned (.bool false) ∧ Below W.heap.size W w') := Lib.hid (fun W hT => by
    have hok : PosOk (upd q 78 1) := A.posOk_upd hq 78 _ (by decide)
    have := check_any (upd q 78 1) 1 W (pos_bd hok) hT (pos_u8 hok (i := 0) (by decide) rfl).1 (by decide)
    rwa [dk] at this)
  have CT := Lib.hid hC
  have hp31 := Tryz.underlying31
  have hw1 : IntKind.u8.wrap (1 - 0) = 1 := by decide
  have G0 := Lib.hid (World.grownBy.refl w (some b))
  clear hq hC h78
  go_enter Tryz.func68, Tryz.ntmps68
  go_upto_region 1 with (first
    | ((with_reducible refine wpl_store_mq rfl _ _ _ rfl ?_); refine ⟨b, 78, q, c, _, t, 1, .u8, rfl, rfl, by decide, rfl, Tryz.size_u8A, hM, ?_⟩; intro W1 hP1 hM1))
  have G1 := Lib.hid (A.put_grown G0.out hP1)
  have CT1 := Lib.hid (CT.out.put hP1)
  have d78 : W1.cell? ⟨b, 78, none⟩ = some (.int .u8 1) := hM1.atq 78 (by decide) .u8 rfl
  have h0 : W1.cell? ⟨b, 0, none⟩ = some (.int .u8 (q 0)) := hM1.atq 0 (by decide) .u8 rfl
  have h84 : W1.cell? ⟨b, 84, none⟩ = some (.int .u8 (q 84)) := hM1.atq 84 (by decide) .u8 rfl
  have hrg := hM1.rq
  have hTW := CT1.out.tb'
  have hbl := hM1.lt
  clear c78 hM hP1 G0
  go_wp2_with fail
  refine region_below (by kernel_rfl) (by kernel_rfl) ?_
  repeat (first
    | (go_big_quiet_want; refine quiet_load_mid 31 _ rfl hp31 rfl ⟨b, 0, posL (upd q 78 1), rfl, hrg, A.posL_info _, ?_⟩; simp only [Act.put, List.setIfInBounds_toArray, List.set_cons_succ, List.set_cons_zero]; go_big_quiet_on)
    | go_big_quiet_step (first
      | (go_at_call 88; exact quiet_below (HK.out _ (tb_grow hTW)))))
  refine wpQuiet_nil ?_
  intro w3 hb3
  have G2 := Lib.hid (A.below_step G1.out hb3)
  have hM2 := hM1.below hb3
  clear d78 h0 h84 hrg hTW hM1 hbl
  go_wp2
  refine bodyPost_end (results_none rfl _ _ _) rfl ?_
  exact ⟨rfl, ⟨by rw [E.out]; exact hM2, G2.out⟩⟩
set_option maxRecDepth 100000 in
set_option maxHeartbeats 1000000 in
theorem mturn_03 (q c : Nat → Int) (m : Mv) (t : Int) (b : Nat) (w0 w : World) (hM : A.MvAt w b q c m t) (hC : A.Ctx w0 w b) (hq : PosOk q) (h78 : q 78 = 0) (dv : (q 0 == 5) = true) (dc : decide (q 84 < 3) = true) (dk : K.check (upd q 78 1) 1 = true) :
    Calls Tryz.prog 68 #[.pointer (some ⟨b, 0, none⟩)] w fun e w' => e = .returned (.tuple #[]) ∧ A.Step b (A.turn q) c m t w w' := by
  have B84 := Lib.hid (pos_u8 hq (i := 84) (by decide) rfl)
  have E := Lib.hid (show A.turn q = (upd (upd q 78 1) 84 (q 84 + 1)) by rw [A.turn_more q ⟨by simpa using dv, by rw [h78]; exact of_decide_eq_true dc, by unfold A.turn0; rw [h78]; exact dk⟩, h78]; rfl)
  have c78 : w.cell? ⟨b, 78, none⟩ = some (.int .u8 0) := by rw [← h78]; exact hM.atq 78 (by decide) .u8 rfl
  have HK : Hid (∀ W, Tb W → Calls Tryz.prog 88 #[.agg (posC (upd q 78 1)), .int .u8 1] W fun e w' => e = .returned (.bool true) ∧ Below W.heap.size W w') := Lib.hid (fun W hT => by
    have hok : PosOk (upd q 78 1) := A.posOk_upd hq 78 _ (by decide)
    have := check_any (upd q 78 1) 1 W (pos_bd hok) hT (pos_u8 hok (i := 0) (by decide) rfl).1 (by decide)
    rwa [dk] at this)
  have CT := Lib.hid hC
  have hp31 := Tryz.underlying31
  have hw1 : IntKind.u8.wrap (1 - 0) = 1 := by decide
  have G0 := Lib.hid (World.grownBy.refl w (some b))
  clear hq hC h78
  go_enter Tryz.func68, Tryz.ntmps68
  go_upto_region 1 with (first
    | ((with_reducible refine wpl_store_mq rfl _ _ _ rfl ?_); refine ⟨b, 78, q, c, _, t, 1, .u8, rfl, rfl, by decide, rfl, Tryz.size_u8A, hM, ?_⟩; intro W1 hP1 hM1))
  have G1 := Lib.hid (A.put_grown G0.out hP1)
  have CT1 := Lib.hid (CT.out.put hP1)
  have d78 : W1.cell? ⟨b, 78, none⟩ = some (.int .u8 1) := hM1.atq 78 (by decide) .u8 rfl
  have h0 : W1.cell? ⟨b, 0, none⟩ = some (.int .u8 (q 0)) := hM1.atq 0 (by decide) .u8 rfl
  have h84 : W1.cell? ⟨b, 84, none⟩ = some (.int .u8 (q 84)) := hM1.atq 84 (by decide) .u8 rfl
  have hrg := hM1.rq
  have hTW := CT1.out.tb'
  have hbl := hM1.lt
  clear c78 hM hP1 G0
  go_wp2_with fail
  refine region_below (by kernel_rfl) (by kernel_rfl) ?_
  repeat (first
    | (go_big_quiet_want; refine quiet_load_mid 31 _ rfl hp31 rfl ⟨b, 0, posL (upd q 78 1), rfl, hrg, A.posL_info _, ?_⟩; simp only [Act.put, List.setIfInBounds_toArray, List.set_cons_succ, List.set_cons_zero]; go_big_quiet_on)
    | go_big_quiet_step (first
      | (go_at_call 88; exact quiet_below (HK.out _ (tb_grow hTW)))))
  refine wpQuiet_nil ?_
  intro w3 hb3
  have G2 := Lib.hid (A.below_step G1.out hb3)
  have hM2 := hM1.below hb3
  clear d78 h0 h84 hrg hTW hM1 hbl
  have b84 := B84.out
  have hw : IntKind.u8.wrap (q 84 + 1) = q 84 + 1 := by rw [IntKind.wrap_u8]; have := of_decide_eq_true dc; omega
  have h84' : w3.cell? ⟨b, 84, none⟩ = some (.int .u8 (q 84)) := hM2.atq 84 (by decide) .u8 rfl
  have hbl := hM2.lt
  clear hb3 b84
  go_wp2_with fail
  refine region_tail (n := 12) (by kernel_rfl) (by kernel_rfl) ?_
  simp only [List.take_succ_cons, List.take_zero, List.drop_succ_cons, List.drop_zero]
  repeat (quiet_step (fail))
  refine wpQuiet_nil ?_
  intro w4 hb4
  have hM3 := hM2.below hb4
  have G3 := Lib.hid (A.below_step G2.out hb4)
  clear h84' hM2 hb4 hbl
  go_wp2_with ((with_reducible refine wpl_store_mq rfl _ _ _ rfl ?_); refine ⟨b, 84, _, c, _, t, _, .u8, rfl, rfl, by decide, rfl, Tryz.size_u8A, hM3, ?_⟩; intro W5 hP5 hM5)
  refine bodyPost_end (results_none rfl _ _ _) rfl ?_
  exact ⟨rfl, ⟨by rw [E.out]; exact hM5, A.put_grown G3.out hP5⟩⟩
set_option maxRecDepth 100000 in
set_option maxHeartbeats 1000000 in
theorem mturn_10 (q c : Nat → Int) (m : Mv) (t : Int) (b : Nat) (w0 w : World) (hM : A.MvAt w b q c m t) (hC : A.Ctx w0 w b) (hq : PosOk q) (h78 : q 78 = 1) (dv : (q 0 == 5) = false) :
    Calls Tryz.prog 68 #[.pointer (some ⟨b, 0, none⟩)] w fun e w' => e = .returned (.tuple #[]) ∧ A.Step b (A.turn q) c m t w w' := by
  have B84 := Lib.hid (pos_u8 hq (i := 85) (by decide) rfl)
  have E := Lib.hid (show A.turn q = (upd q 78 0) by rw [A.turn_same q (fun h => by rw [h.1] at dv; cases dv), h78]; rfl)
  have c78 : w.cell? ⟨b, 78, none⟩ = some (.int .u8 1) := by rw [← h78]; exact hM.atq 78 (by decide) .u8 rfl
  have CT := Lib.hid hC
  have hp31 := Tryz.underlying31
  have hw1 : IntKind.u8.wrap (1 - 1) = 0 := by decide
  have G0 := Lib.hid (World.grownBy.refl w (some b))
  clear hq hC h78
  go_enter Tryz.func68, Tryz.ntmps68
  go_upto_region 1 with (first
    | ((with_reducible refine wpl_store_mq rfl _ _ _ rfl ?_); refine ⟨b, 78, q, c, _, t, 0, .u8, rfl, rfl, by decide, rfl, Tryz.size_u8A, hM, ?_⟩; intro W1 hP1 hM1))
  have G1 := Lib.hid (A.put_grown G0.out hP1)
  have CT1 := Lib.hid (CT.out.put hP1)
  have d78 : W1.cell? ⟨b, 78, none⟩ = some (.int .u8 0) := hM1.atq 78 (by decide) .u8 rfl
  have h0 : W1.cell? ⟨b, 0, none⟩ = some (.int .u8 (q 0)) := hM1.atq 0 (by decide) .u8 rfl
  have h84 : W1.cell? ⟨b, 85, none⟩ = some (.int .u8 (q 85)) := hM1.atq 85 (by decide) .u8 rfl
  have hrg := hM1.rq
  have hTW := CT1.out.tb'
  have hbl := hM1.lt
  clear c78 hM hP1 G0
  go_wp2_with fail
  refine region_below (by kernel_rfl) (by kernel_rfl) ?_
  repeat (first
    | (go_big_quiet_want; refine quiet_load_mid 31 _ rfl hp31 rfl ⟨b, 0, posL (upd q 78 0), rfl, hrg, A.posL_info _, ?_⟩; simp only [Act.put, List.setIfInBounds_toArray, List.set_cons_succ, List.set_cons_zero]; go_big_quiet_on)
    | go_big_quiet_step (first
      | (go_at_call 88; exact quiet_below (HK.out _ (tb_grow hTW)))))
  refine wpQuiet_nil ?_
  intro w3 hb3
  have G2 := Lib.hid (A.below_step G1.out hb3)
  have hM2 := hM1.below hb3
  clear d78 h0 h84 hrg hTW hM1 hbl
  go_wp2
  refine bodyPost_end (results_none rfl _ _ _) rfl ?_
  exact ⟨rfl, ⟨by rw [E.out]; exact hM2, G2.out⟩⟩
set_option maxRecDepth 100000 in
set_option maxHeartbeats 1000000 in
theorem mturn_11 (q c : Nat → Int) (m : Mv) (t : Int) (b : Nat) (w0 w : World) (hM : A.MvAt w b q c m t) (hC : A.Ctx w0 w b) (hq : PosOk q) (h78 : q 78 = 1) (dv : (q 0 == 5) = true) (dc : decide (q 85 < 3) = false) :
    Calls Tryz.prog 68 #[.pointer (some ⟨b, 0, none⟩)] w fun e w' => e = .returned (.tuple #[]) ∧ A.Step b (A.turn q) c m t w w' := by
  have B84 := Lib.hid (pos_u8 hq (i := 85) (by decide) rfl)
  have E := Lib.hid (show A.turn q = (upd q 78 0) by rw [A.turn_same q (fun h => by have h2 := h.2.1; rw [h78] at h2; exact of_decide_eq_false dc h2), h78]; rfl)
  have c78 : w.cell? ⟨b, 78, none⟩ = some (.int .u8 1) := by rw [← h78]; exact hM.atq 78 (by decide) .u8 rfl
  have CT := Lib.hid hC
  have hp31 := Tryz.underlying31
  have hw1 : IntKind.u8.wrap (1 - 1) = 0 := by decide
  have G0 := Lib.hid (World.grownBy.refl w (some b))
  clear hq hC h78
  go_enter Tryz.func68, Tryz.ntmps68
  go_upto_region 1 with (first
    | ((with_reducible refine wpl_store_mq rfl _ _ _ rfl ?_); refine ⟨b, 78, q, c, _, t, 0, .u8, rfl, rfl, by decide, rfl, Tryz.size_u8A, hM, ?_⟩; intro W1 hP1 hM1))
  have G1 := Lib.hid (A.put_grown G0.out hP1)
  have CT1 := Lib.hid (CT.out.put hP1)
  have d78 : W1.cell? ⟨b, 78, none⟩ = some (.int .u8 0) := hM1.atq 78 (by decide) .u8 rfl
  have h0 : W1.cell? ⟨b, 0, none⟩ = some (.int .u8 (q 0)) := hM1.atq 0 (by decide) .u8 rfl
  have h84 : W1.cell? ⟨b, 85, none⟩ = some (.int .u8 (q 85)) := hM1.atq 85 (by decide) .u8 rfl
  have hrg := hM1.rq
  have hTW := CT1.out.tb'
  have hbl := hM1.lt
  clear c78 hM hP1 G0
  go_wp2_with fail
  refine region_below (by kernel_rfl) (by kernel_rfl) ?_
  repeat (first
    | (go_big_quiet_want; refine quiet_load_mid 31 _ rfl hp31 rfl ⟨b, 0, posL (upd q 78 0), rfl, hrg, A.posL_info _, ?_⟩; simp only [Act.put, List.setIfInBounds_toArray, List.set_cons_succ, List.set_cons_zero]; go_big_quiet_on)
    | go_big_quiet_step (first
      | (go_at_call 88; exact quiet_below (HK.out _ (tb_grow hTW)))))
  refine wpQuiet_nil ?_
  intro w3 hb3
  have G2 := Lib.hid (A.below_step G1.out hb3)
  have hM2 := hM1.below hb3
  clear d78 h0 h84 hrg hTW hM1 hbl
  go_wp2
  refine bodyPost_end (results_none rfl _ _ _) rfl ?_
  exact ⟨rfl, ⟨by rw [E.out]; exact hM2, G2.out⟩⟩
set_option maxRecDepth 100000 in
set_option maxHeartbeats 1000000 in
theorem mturn_12 (q c : Nat → Int) (m : Mv) (t : Int) (b : Nat) (w0 w : World) (hM : A.MvAt w b q c m t) (hC : A.Ctx w0 w b) (hq : PosOk q) (h78 : q 78 = 1) (dv : (q 0 == 5) = true) (dc : decide (q 85 < 3) = true) (dk : K.check (upd q 78 0) 0 = false) :
    Calls Tryz.prog 68 #[.pointer (some ⟨b, 0, none⟩)] w fun e w' => e = .returned (.tuple #[]) ∧ A.Step b (A.turn q) c m t w w' := by
  have B84 := Lib.hid (pos_u8 hq (i := 85) (by decide) rfl)
  have E := Lib.hid (show A.turn q = (upd q 78 0) by rw [A.turn_same q (fun h => by have h2 := h.2.2; unfold A.turn0 at h2; rw [h78] at h2; exact Bool.noConfusion (dk.symm.trans h2)), h78]; rfl)
  have c78 : w.cell? ⟨b, 78, none⟩ = some (.int .u8 1) := by rw [← h78]; exact hM.atq 78 (by decide) .u8 rfl
  have HK : Hid (∀ W, Tb W → Calls Tryz.prog 88 #[.agg (posC (upd q 78 0)), .int .u8 0] W fun e w' => e = .returned (.bool false) ∧ Below W.heap.size W w') := Lib.hid (fun W hT => by
    have hok : PosOk (upd q 78 0) := A.posOk_upd hq 78 _ (by decide)
    have := check_any (upd q 78 0) 0 W (pos_bd hok) hT (pos_u8 hok (i := 0) (by decide) rfl).1 (by decide)
    rwa [dk] at this)
  have CT := Lib.hid hC
  have hp31 := Tryz.underlying31
  have hw1 : IntKind.u8.wrap (1 - 1) = 0 := by decide
  have G0 := Lib.hid (World.grownBy.refl w (some b))
  clear hq hC h78
  go_enter Tryz.func68, Tryz.ntmps68
  go_upto_region 1 with (first
    | ((with_reducible refine wpl_store_mq rfl _ _ _ rfl ?_); refine ⟨b, 78, q, c, _, t, 0, .u8, rfl, rfl, by decide, rfl, Tryz.size_u8A, hM, ?_⟩; intro W1 hP1 hM1))
  have G1 := Lib.hid (A.put_grown G0.out hP1)
  have CT1 := Lib.hid (CT.out.put hP1)
  have d78 : W1.cell? ⟨b, 78, none⟩ = some (.int .u8 0) := hM1.atq 78 (by decide) .u8 rfl
  have h0 : W1.cell? ⟨b, 0, none⟩ = some (.int .u8 (q 0)) := hM1.atq 0 (by decide) .u8 rfl
  have h84 : W1.cell? ⟨b, 85, none⟩ = some (.int .u8 (q 85)) := hM1.atq 85 (by decide) .u8 rfl
  have hrg := hM1.rq
  have hTW := CT1.out.tb'
  have hbl := hM1.lt
  clear c78 hM hP1 G0
  go_wp2_with fail
  refine region_below (by kernel_rfl) (by kernel_rfl) ?_
  repeat (first
    | (go_big_quiet_want; refine quiet_load_mid 31 _ rfl hp31 rfl ⟨b, 0, posL (upd q 78 0), rfl, hrg, A.posL_info _, ?_⟩; simp only [Act.put, List.setIfInBounds_toArray, List.set_cons_succ, List.set_cons_zero]; go_big_quiet_on)
    | go_big_quiet_step (first
      | (go_at_call 88; exact quiet_below (HK.out _ (tb_grow hTW)))))
  refine wpQuiet_nil ?_
  intro w3 hb3
  have G2 := Lib.hid (A.below_step G1.out hb3)
  have hM2 := hM1.below hb3
  clear d78 h0 h84 hrg hTW hM1 hbl
  go_wp2
  refine bodyPost_end (results_none rfl _ _ _) rfl ?_
  exact ⟨rfl, ⟨by rw [E.out]; exact hM2, G2.out⟩⟩
set_option maxRecDepth 100000 in
set_option maxHeartbeats 1000000 in
theorem mturn_13 (q c : Nat → Int) (m : Mv) (t : Int) (b : Nat) (w0 w : World) (hM : A.MvAt w b q c m t) (hC : A.Ctx w0 w b) (hq : PosOk q) (h78 : q 78 = 1) (dv : (q 0 == 5) = true) (dc : decide (q 85 < 3) = true) (dk : K.check (upd q 78 0) 0 = true) :
    Calls Tryz.prog 68 #[.pointer (some ⟨b, 0, none⟩)] w fun e w' => e = .returned (.tuple #[]) ∧ A.Step b (A.turn q) c m t w w' := by
  have B84 := Lib.hid (pos_u8 hq (i := 85) (by decide) rfl)
  have E := Lib.hid (show A.turn q = (upd (upd q 78 0) 85 (q 85 + 1)) by rw [A.turn_more q ⟨by simpa using dv, by rw [h78]; exact of_decide_eq_true dc, by unfold A.turn0; rw [h78]; exact dk⟩, h78]; rfl)
  have c78 : w.cell? ⟨b, 78, none⟩ = some (.int .u8 1) := by rw [← h78]; exact hM.atq 78 (by decide) .u8 rfl
  have HK : Hid (∀ W, Tb W → Calls Tryz.prog 88 #[.agg (posC (upd q 78 0)), .int .u8 0] W fun e w' => e = .returned (.bool true) ∧ Below W.heap.size W w') := Lib.hid (fun W hT => by
    have hok : PosOk (upd q 78 0) := A.posOk_upd hq 78 _ (by decide)
    have := check_any (upd q 78 0) 0 W (pos_bd hok) hT (pos_u8 hok (i := 0) (by decide) rfl).1 (by decide)
    rwa [dk] at this)
  have CT := Lib.hid hC
  have hp31 := Tryz.underlying31
  have hw1 : IntKind.u8.wrap (1 - 1) = 0 := by decide
  have G0 := Lib.hid (World.grownBy.refl w (some b))
  clear hq hC h78
  go_enter Tryz.func68, Tryz.ntmps68
  go_upto_region 1 with (first
    | ((with_reducible refine wpl_store_mq rfl _ _ _ rfl ?_); refine ⟨b, 78, q, c, _, t, 0, .u8, rfl, rfl, by decide, rfl, Tryz.size_u8A, hM, ?_⟩; intro W1 hP1 hM1))
  have G1 := Lib.hid (A.put_grown G0.out hP1)
  have CT1 := Lib.hid (CT.out.put hP1)
  have d78 : W1.cell? ⟨b, 78, none⟩ = some (.int .u8 0) := hM1.atq 78 (by decide) .u8 rfl
  have h0 : W1.cell? ⟨b, 0, none⟩ = some (.int .u8 (q 0)) := hM1.atq 0 (by decide) .u8 rfl
  have h84 : W1.cell? ⟨b, 85, none⟩ = some (.int .u8 (q 85)) := hM1.atq 85 (by decide) .u8 rfl
  have hrg := hM1.rq
  have hTW := CT1.out.tb'
  have hbl := hM1.lt
  clear c78 hM hP1 G0
  go_wp2_with fail
  refine region_below (by kernel_rfl) (by kernel_rfl) ?_
  repeat (first
    | (go_big_quiet_want; refine quiet_load_mid 31 _ rfl hp31 rfl ⟨b, 0, posL (upd q 78 0), rfl, hrg, A.posL_info _, ?_⟩; simp only [Act.put, List.setIfInBounds_toArray, List.set_cons_succ, List.set_cons_zero]; go_big_quiet_on)
    | go_big_quiet_step (first
      | (go_at_call 88; exact quiet_below (HK.out _ (tb_grow hTW)))))
  refine wpQuiet_nil ?_
  intro w3 hb3
  have G2 := Lib.hid (A.below_step G1.out hb3)
  have hM2 := hM1.below hb3
  clear d78 h0 h84 hrg hTW hM1 hbl
  have b84 := B84.out
  have hw : IntKind.u8.wrap (q 85 + 1) = q 85 + 1 := by rw [IntKind.wrap_u8]; have := of_decide_eq_true dc; omega
  have h84' : w3.cell? ⟨b, 85, none⟩ = some (.int .u8 (q 85)) := hM2.atq 85 (by decide) .u8 rfl
  have hbl := hM2.lt
  clear hb3 b84
  go_wp2_with fail
  refine region_tail (n := 12) (by kernel_rfl) (by kernel_rfl) ?_
  simp only [List.take_succ_cons, List.take_zero, List.drop_succ_cons, List.drop_zero]
  repeat (quiet_step (fail))
  refine wpQuiet_nil ?_
  intro w4 hb4
  have hM3 := hM2.below hb4
  have G3 := Lib.hid (A.below_step G2.out hb4)
  clear h84' hM2 hb4 hbl
  go_wp2_with ((with_reducible refine wpl_store_mq rfl _ _ _ rfl ?_); refine ⟨b, 85, _, c, _, t, _, .u8, rfl, rfl, by decide, rfl, Tryz.size_u8A, hM3, ?_⟩; intro W5 hP5 hM5)
  refine bodyPost_end (results_none rfl _ _ _) rfl ?_
  exact ⟨rfl, ⟨by rw [E.out]; exact hM5, A.put_grown G3.out hP5⟩⟩
theorem mturn_any (q c : Nat → Int) (m : Mv) (t : Int) (b : Nat) (w0 w : World) (hM : A.MvAt w b q c m t) (hC : A.Ctx w0 w b) (hq : PosOk q) (h78 : q 78 ≤ 1) :
    Calls Tryz.prog 68 #[.pointer (some ⟨b, 0, none⟩)] w fun e w' => e = .returned (.tuple #[]) ∧ A.Step b (A.turn q) c m t w w' := by
  obtain ⟨l, _⟩ := pos_u8 hq (i := 78) (by decide) rfl
  rcases (show q 78 = 0 ∨ q 78 = 1 by omega) with h | h
  · cases dv : (q 0 == 5)
    · exact mturn_00 q c m t b w0 w hM hC hq h dv
    · cases dc : decide (q 84 < 3)
      · exact mturn_01 q c m t b w0 w hM hC hq h dv dc
      · cases dk : K.check (upd q 78 1) 1
        · exact mturn_02 q c m t b w0 w hM hC hq h dv dc dk
        · exact mturn_03 q c m t b w0 w hM hC hq h dv dc dk
  · cases dv : (q 0 == 5)
    · exact mturn_10 q c m t b w0 w hM hC hq h dv
    · cases dc : decide (q 85 < 3)
      · exact mturn_11 q c m t b w0 w hM hC hq h dv dc
      · cases dk : K.check (upd q 78 0) 0
        · exact mturn_12 q c m t b w0 w hM hC hq h dv dc dk
        · exact mturn_13 q c m t b w0 w hM hC hq h dv dc dk
end Go.Proofs.YtgkndhpolcnjbaaGreatDoor
namespace Go.Proofs.YtgkndhpolcnjbaaGreatDoor
open Go.RowKit Go.Sort
attribute [local go_sem] Oper.semAt_some
namespace A
def blG (c : Nat → Int) (s a : Nat) : Bool := decide (a = s) || (D.beside (a : Int) (s : Int) && (P.kind (c (1 + a)) != 0 && P.kind (c (1 + a)) != 1))
theorem beside_sym : ∀ (a b : Fin 64), D.beside (a.val : Int) (b.val : Int) = D.beside (b.val : Int) (a.val : Int) := by decide +kernel
theorem not_pawn (x : Int) (h0 : 0 ≤ x) (h1 : x ≤ 255) : ((P.isB x && !(P.isB x && S.ofG 0 1 x)) && !(P.isB x && S.ofG 1 1 x)) = (P.kind x != 0 && P.kind x != 1) :=
  all8 (fun x => ((P.isB x && !(P.isB x && S.ofG 0 1 x)) && !(P.isB x && S.ofG 1 1 x)) = (P.kind x != 0 && P.kind x != 1)) (by decide +kernel) x h0 h1
theorem blown_bit (c : Nat → Int) (s j : Nat) (hc : 0 ≤ c (1 + j) ∧ c (1 + j) ≤ 255) (hs : s < 64) (hj : j < 64) : bit (blown c (s : Int)) j = blG c s j := by
  obtain ⟨x0, x1⟩ := hc
  have h := not_pawn _ x0 x1
  unfold blown
  rw [bit_or, bit_andn, bit_andn, bit_and, bit_one s j hs, king_tab ⟨s, hs⟩ ⟨j, hj⟩, bit_all c j hj, bit_of c 0 1 j hj, bit_of c 1 1 j hj, beside_sym ⟨s, hs⟩ ⟨j, hj⟩]
  unfold blG
  rw [← h]
  cases D.beside (j : Int) (s : Int) <;> cases P.isB (c (1 + j)) <;> cases S.ofG 0 1 (c (1 + j)) <;> cases S.ofG 1 1 (c (1 + j)) <;> cases decide (j = s) <;> rfl
end A
end Go.Proofs.YtgkndhpolcnjbaaGreatDoor
namespace Go.Proofs.YtgkndhpolcnjbaaGreatDoor
open Go.RowKit Go.Sort
namespace A
theorem u_ne (c : Nat → Int) {i j : Nat} (n : Int) (h : j ≠ i) : upd c i n j = c j := by unfold upd; rw [if_neg h]
theorem turn_bd (q : Nat → Int) (i : Nat) (h : i ≤ 64) : turn q i = q i := by
  unfold turn
  split
  · rw [u_ne _ _ (by omega)]; exact u_ne _ _ (by omega)
  · exact u_ne _ _ (by omega)
theorem clocks_bd (c q : Nat → Int) (m : Mv) (t : Int) (i : Nat) (h : i ≤ 64) : clocks c q m t i = q i := by
  unfold clocks
  try dsimp only
  split
  · rw [u_ne _ _ (by omega), u_ne _ _ (by omega)]
  · exact u_ne _ _ (by omega)
theorem pass_bd (c q : Nat → Int) (m : Mv) (i : Nat) (h : i ≤ 64) : pass c q m i = q i := by
  unfold pass
  split
  · rw [u_ne _ _ (by omega), u_ne _ _ (by omega)]
  · exact u_ne _ _ (by omega)
theorem rights0_bd (c q : Nat → Int) (m : Mv) (i : Nat) (h : i ≤ 64) : rights0 c q m i = q i := by
  unfold rights0
  split
  · rw [u_ne _ _ (by omega), u_ne _ _ (by omega)]
  · rfl
theorem rights1_bd (q : Nat → Int) (m : Mv) (t : Int) (col side i : Nat) (h : i ≤ 64) : rights1 q m t col side i = q i := by
  unfold rights1
  split
  · exact u_ne _ _ (by omega)
  · rfl
theorem rights_bd (c q : Nat → Int) (m : Mv) (t : Int) (i : Nat) (h : i ≤ 64) : rights c q m t i = q i := by
  unfold rights
  rw [rights1_bd _ _ _ _ _ _ h, rights1_bd _ _ _ _ _ _ h, rights1_bd _ _ _ _ _ _ h, rights1_bd _ _ _ _ _ _ h, rights0_bd _ _ _ _ h]
theorem add_bd (c : Nat → Int) (color kind : Int) (i : Nat) (h : i ≤ 64) : add c color kind i = c i := by
  unfold add
  split
  · exact u_ne _ _ (by unfold pk6; omega)
  · rfl
theorem take_bd (c : Nat → Int) (color kind : Int) (i : Nat) (h : i ≤ 64) : take c color kind i = c i := by
  unfold take
  split
  · exact u_ne _ _ (by unfold pk6; omega)
  · rfl
theorem pocketT_bd (c q : Nat → Int) (t : Int) (i : Nat) (h : i ≤ 64) : pocketT c q t i = q i := by
  unfold pocketT
  split
  · unfold unmark
    rw [u_ne _ _ (by omega), add_bd _ _ _ _ h]
  · rfl
theorem pocket_bd (c q : Nat → Int) (m : Mv) (t : Int) (i : Nat) (h : i ≤ 64) : pocket c q m t i = q i := by
  unfold pocket
  split
  · rfl
  · split
    · split
      · unfold domark unmark
        rw [u_ne _ _ (by omega), u_ne _ _ (by omega)]
      · rfl
    · split
      · unfold domark unmark
        rw [u_ne _ _ (by omega), u_ne _ _ (by omega), pocketT_bd _ _ _ _ h]
      · unfold unmark
        rw [u_ne _ _ (by omega), pocketT_bd _ _ _ _ h]
theorem wipe_bd (l : List Nat) (i : Nat) : ∀ (q : Nat → Int), (∀ x ∈ l, 1 + x ≠ i) → wipe q l i = q i := by
  induction l with
  | nil => intro q _; rfl
  | cons s l ih =>
    intro q h
    rw [wipe, ih _ (fun x hx => h x (List.mem_cons_of_mem _ hx))]
    exact u_ne _ _ (fun e => h s List.mem_cons_self e.symm)
theorem men_bd (c : Nat → Int) (F G : Nat) (p d : Int) (ca : Bool) (t : Int) (s : Nat) (hs : s < 64) (nF : s ≠ F) (nG : s ≠ G) (nt : (s : Int) ≠ t) (nk : ca = true → s ≠ kg c ((F : Int), (G : Int), p, d, ca) ∧ s ≠ rg c ((F : Int), (G : Int), p, d, ca)) :
    men c ((F : Int), (G : Int), p, d, ca) t (1 + s) = c (1 + s) := by
  have hF : cellF ((F : Int), (G : Int), p, d, ca) = 1 + F := by unfold cellF; simp
  have hG : cellT ((F : Int), (G : Int), p, d, ca) = 1 + G := by unfold cellT; simp
  have hT : (if 0 ≤ t then upd c (1 + t.toNat) 0 else c) (1 + s) = c (1 + s) := by
    split
    · exact u_ne _ _ (by omega)
    · rfl
  unfold men
  rw [hF, hG]
  split
  · rename_i h
    obtain ⟨k1, k2⟩ := nk h
    rw [u_ne _ _ (by omega), u_ne _ _ (by omega), u_ne _ _ (by omega), u_ne _ _ (by omega)]
  · split
    · rw [u_ne _ _ (by omega)]
      exact take_bd _ _ _ _ (by omega)
    · split
      · rw [u_ne _ _ (by omega), u_ne _ _ (by omega), u_ne _ _ (by omega), hT]
      · rw [u_ne _ _ (by omega), u_ne _ _ (by omega), hT]
theorem men_0 (c : Nat → Int) (m : Mv) (t : Int) : men c m t 0 = c 0 := by
  have hT : (if 0 ≤ t then upd c (1 + t.toNat) 0 else c) 0 = c 0 := by
    split
    · exact u_ne _ _ (by omega)
    · rfl
  unfold men
  split
  · rw [u_ne _ _ (by omega), u_ne _ _ (by omega), u_ne _ _ (by unfold cellT; omega), u_ne _ _ (by unfold cellF; omega)]
  · split
    · rw [u_ne _ _ (by unfold cellT; omega), take_bd _ _ _ _ (by omega)]
    · split
      · rw [u_ne _ _ (by unfold cellT; omega), u_ne _ _ (by unfold cellT; omega), u_ne _ _ (by unfold cellF; omega), hT]
      · rw [u_ne _ _ (by unfold cellT; omega), u_ne _ _ (by unfold cellF; omega), hT]
/-- A square that a move doesn't name is as it was. -/
theorem squares (c : Nat → Int) (F G : Nat) (p d : Int) (ca : Bool) (t : Int) (s : Nat) (hs : s < 64) (hG : G < 64) (hc : BdOk c) (nF : s ≠ F) (nG : s ≠ G) (nt : (s : Int) ≠ t)
    (nk : ca = true → s ≠ kg c ((F : Int), (G : Int), p, d, ca) ∧ s ≠ rg c ((F : Int), (G : Int), p, d, ca)) (nb : ¬ (c 0 = 3 ∧ 0 ≤ t ∧ D.beside (s : Int) (G : Int) = true ∧ c (1 + s) % 8 ≠ 1)) :
    after c ((F : Int), (G : Int), p, d, ca) t (1 + s) = c (1 + s) := by
  obtain ⟨x0, x1⟩ := hc s hs
  have e1 := men_bd c F G p d ca t s hs nF nG nt nk
  have e2 := pocket_bd c (men c ((F : Int), (G : Int), p, d, ca) t) ((F : Int), (G : Int), p, d, ca) t (1 + s) (by omega)
  have z2 := pocket_bd c (men c ((F : Int), (G : Int), p, d, ca) t) ((F : Int), (G : Int), p, d, ca) t 0 (by omega)
  rw [men_0] at z2
  rw [e1] at e2
  unfold after
  rw [turn_bd _ _ (by omega), clocks_bd _ _ _ _ _ (by omega), pass_bd _ _ _ _ (by omega), rights_bd _ _ _ _ _ (by omega)]
  generalize pocket c (men c ((F : Int), (G : Int), p, d, ca) t) ((F : Int), (G : Int), p, d, ca) t = q at *
  unfold blow
  split
  · exact e2
  · rename_i h
    rw [wipe_bd _ _ _ ?_, e2]
    intro x hx e
    have hx' : x = s := by omega
    subst hx'
    unfold B.list at hx
    have hb := (List.mem_filter.1 hx).2
    rw [show (((F : Int), (G : Int), p, d, ca) : Mv).2.1 = (G : Int) from rfl, blown_bit q G x (by rw [e2]; exact ⟨x0, x1⟩) hG hs] at hb
    unfold blG at hb
    rw [e2, D.kind_of _ x0 x1] at hb
    simp only [Bool.or_eq_true, decide_eq_true_eq, Bool.and_eq_true, bne_iff_ne, ne_eq] at hb
    rcases hb with hb | ⟨hb1, hb2, hb3⟩
    · exact nG hb
    · refine nb ⟨by omega, by omega, hb1, ?_⟩
      split at hb3
      · rename_i h2
        rw [if_pos h2] at hb2
        exact absurd rfl hb2
      · exact hb3
end A
end Go.Proofs.YtgkndhpolcnjbaaGreatDoor
