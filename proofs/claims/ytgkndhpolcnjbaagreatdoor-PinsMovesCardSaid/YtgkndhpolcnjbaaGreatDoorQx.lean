/- Several texts in one: CastD. -/

import Derived.Test.YtgkndhpolcnjbaaGreatDoorQr
namespace Go.Proofs.YtgkndhpolcnjbaaGreatDoor
open Go.RowKit Go.Sort
attribute [local go_sem] Oper.semAt_some
set_option maxRecDepth 100000 in
theorem may1_any (s Bm : Nat) (m : BitVec 64) (b : Bool) (W : World) (hs : s < 64) (hM : W.cell? ⟨Bm, 0, none⟩ = some (.int .u64 (U m))) (hb : bit m s = b) :
    Calls Tryz.prog 177 #[.int .i64 (s : Int), .pointer (some ⟨Bm, 0, none⟩)] W fun e W' => e = .returned (.bool (!b)) ∧ Below W.heap.size W W' := by
  have hdiv : U m / 2 ^ s = U (bShr m s) := by have := bv_shr_nat m s; rwa [Nat.min_eq_left (by omega)] at this
  have hsh : bit (bShr m s) 0 = bit m s := by rw [bit_shr, Nat.add_zero]
  have hq0 : (bv1 (bit (bShr m s) 0) == 0) = !b := by rw [hsh, hb]; cases b <;> rfl
  have hd1 : decide ((s : Int) < 0) = false := by simp
  have hd2 : decide (64 ≤ (s : Int)) = false := by simp; omega
  have hl := World.block_lt_of_cell? W _ hM
  simp only at hl
  clear hsh hb
  go_enter Tryz.func177, Tryz.ntmps177
  go_wp2
  go_ret
  exact ⟨rfl, Below.refl _ _⟩
set_option maxRecDepth 100000 in
set_option maxHeartbeats 2000000 in
theorem may2_any (s t Bp Bo Bq : Nat) (c q : Nat → Int) (o : BitVec 64) (W : World) (ht : t < 2) (hct : c 78 = (t : Int)) (hq : BdOk q) (hT : Tb W) (hP : PosAt W Bp c) (hO : W.cell? ⟨Bo, 0, none⟩ = some (.int .u64 (U o))) (hQ : PosAt W Bq q) :
    Calls Tryz.prog 178 #[.int .i64 (s : Int), .pointer (some ⟨Bp, 0, none⟩), .pointer (some ⟨Bo, 0, none⟩), .pointer (some ⟨Bq, 0, none⟩)] W fun e W' => e = .returned (.bool ((c 0 == 3 && U (bAnd (R.king (s : Int)) o) != 0) || !K.on q s (1 - (t : Int)))) ∧ Below W.heap.size W W' := by
  have h0 := hP.cell (i := 0) (by decide)
  have h78 := hP.cell (i := 78) (by decide)
  rw [hct, show pk 78 = .u8 from rfl] at h78
  rw [show pk 0 = .u8 from rfl] at h0
  have lP := hP.lt
  have lQ := hQ.lt
  have lO := World.block_lt_of_cell? W _ hO
  simp only at lO
  obtain ⟨v3, hv3⟩ : ∃ v3, (c 0 == 3) = v3 := ⟨_, rfl⟩
  obtain ⟨o1, ho1⟩ : ∃ o1, (U (bAnd (R.king (s : Int)) o) != 0) = o1 := ⟨_, rfl⟩
  obtain ⟨bo, hbo⟩ : ∃ bo, K.on q s (1 - (t : Int)) = bo := ⟨_, rfl⟩
  rw [hv3, ho1, hbo]
  clear hct
  rcases (show t = 0 ∨ t = 1 by omega) with rfl | rfl <;> cases v3 <;> cases o1
  all_goals
    go_enter Tryz.func178, Tryz.ntmps178
    go_wp2
    refine region_below (by kernel_rfl) (by kernel_rfl) ?_
    repeat (first
      | go_big_quiet_step (first
        | (go_at_call 56; exact quiet_below (king_any _ _))
        | (go_at_call 150; exact quiet_below (on_eq' q s _ bo _ hq (tb_grow hT) hbo)))
      | (go_big_quiet_want; refine quiet_load_box _ rfl ⟨_, _, rfl, hQ, ?_⟩; simp only [Act.put, List.setIfInBounds_toArray, List.set_cons_succ, List.set_cons_zero]; go_big_quiet_on))
    refine wpQuiet_nil ?_
    intro w3 hb3
    go_wp2
    go_ret
    exact ⟨by cases bo <;> rfl, hb3⟩
end Go.Proofs.YtgkndhpolcnjbaaGreatDoor
