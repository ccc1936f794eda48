/- Several texts in one: Ref13b. -/

import Derived.Test.YtgkndhpolcnjbaaGreatDoorZl
namespace Go.Proofs.YtgkndhpolcnjbaaGreatDoor
open Go.RowKit Go.Sort
set_option maxRecDepth 100000 in
set_option maxHeartbeats 8000000 in
theorem d13pawn_any (c : Nat → Int) (t a b : Nat) (w : World) (hc : PosOk c) (ht : c 78 = (t : Int)) (ht1 : t ≤ 1) (ha : a < 64) (hb : b < 64) :
    Calls Tryz.prog 182 #[.agg (posC c), .int .i64 (a : Int), .int .i64 (b : Int)] w fun e w' => e = .returned (.bool (D.pawn c t a b)) ∧ Below w.heap.size w w' := by
  have hcb := pos_bd hc
  have hp := PosAt.new w c
  have hb0 : Below w.heap.size w (w.alloc (.cells (posC c) 31)) := (Below.refl _ _).alloc (Nat.le_refl _) _
  obtain ⟨W, hW⟩ : ∃ W, w.alloc (.cells (posC c) 31) = W := ⟨_, rfl⟩
  rw [hW] at hp hb0
  obtain ⟨v0, v1⟩ := pos_u8 hc (i := 0) (by decide) rfl
  obtain ⟨v, hv⟩ : ∃ v : Nat, c 0 = (v : Int) := ⟨(c 0).toNat, by omega⟩
  obtain ⟨p0, p1⟩ := pos_i8z hc (i := 83) (by decide) rfl
  obtain ⟨p, hpp⟩ : ∃ p : Int, c 83 = p := ⟨_, rfl⟩
  rw [hpp] at p0 p1
  have HC : Hid (∀ w' : World, PosAt w' w.heap.size c → w'.cell? ⟨w.heap.size, 0, none⟩ = some (.int .u8 (v : Int)) ∧ w'.cell? ⟨w.heap.size, 78, none⟩ = some (.int .u8 (t : Int)) ∧ w'.cell? ⟨w.heap.size, 83, none⟩ = some (.int .i8 p)) := Lib.hid (fun w' hq => by
    have h0 := hq.cell (i := 0) (by decide)
    have h78 := hq.cell (i := 78) (by decide)
    have h83 := hq.cell (i := 83) (by decide)
    rw [hv, show pk 0 = .u8 from rfl] at h0
    rw [ht, show pk 78 = .u8 from rfl] at h78
    rw [hpp, show pk 83 = .i8 from rfl] at h83
    exact ⟨h0, h78, h83⟩)
  have hwP : wrap64 p = p := IntWalk.wrap64_in _ ⟨by omega, by omega⟩
  have hub : -8 ≤ D.up1 t ∧ D.up1 t ≤ 8 := by unfold D.up1; split <;> omega
  have hE : (b : Int) = (a : Int) + 2 * D.up1 t → ((Z.rank t a ≤ 1) → ((((a : Int) + D.up1 t).toNat : Nat) : Int) = (a : Int) + D.up1 t ∧ ((a : Int) + D.up1 t).toNat < 64) := by
    unfold D.up1; split <;> omega
  have HPW : Hid (D.pawn c t a b = if D.hits c a b = true then D.own c b (1 - (t : Int)) || (c 83 == (b : Int)) else if (b : Int) = (a : Int) + D.up1 t then D.empty c b else decide ((b : Int) = (a : Int) + 2 * D.up1 t) && ((decide (Z.rank t a = 1) || (decide (Z.rank t a = 0) && (decide (c 0 = 7) && decide (t = 0)))) && (D.empty c ((a : Int) + D.up1 t).toNat && D.empty c b))) := Lib.hid rfl
  have HU : Hid (∀ w T, T = (t : Int) → Calls Tryz.prog 258 #[.int .u8 T] w fun e w' => e = .returned (.int .i64 (D.up1 t)) ∧ w = w') := Lib.hid (fun w T h => by rw [h]; exact d13up_any t w ht1)
  have HR : Hid (∀ w T, T = (t : Int) → Calls Tryz.prog 114 #[.int .u8 T, .int .i64 (a : Int)] w fun e w' => e = .returned (.int .i64 (Z.rank t a : Nat)) ∧ w = w') := Lib.hid (fun w T h => by rw [h]; exact d13rank_any t a w ht1 ha)
  have HHi : Hid (∀ w, Calls Tryz.prog 183 #[.agg (posC c), .int .i64 (a : Int), .int .i64 (b : Int)] w fun e w' => e = .returned (.bool (D.hits c a b)) ∧ Below w.heap.size w w') := Lib.hid (fun w => d8hits_any c a b w hcb ha hb)
  have HO : Hid (∀ w T, T = 1 - (t : Int) → Calls Tryz.prog 181 #[.agg (posC c), .int .i64 (b : Int), .int .u8 T] w fun e w' => e = .returned (.bool (D.own c b (1 - (t : Int)))) ∧ Below w.heap.size w w') := Lib.hid (fun w T h => by rw [h]; exact d13own_any c b _ w hcb hb)
  have HB : Hid (∀ w T, T = (b : Int) → Calls Tryz.prog 184 #[.agg (posC c), .int .i64 T] w fun e w' => e = .returned (.bool (D.empty c b)) ∧ Below w.heap.size w w') := Lib.hid (fun w T h => by rw [h]; exact d13empty_any c b w hcb hb)
  have HE : Hid ((b : Int) = (a : Int) + 2 * D.up1 t → Z.rank t a ≤ 1 → ∀ w T, T = (a : Int) + D.up1 t → Calls Tryz.prog 184 #[.agg (posC c), .int .i64 T] w fun e w' => e = .returned (.bool (D.empty c ((a : Int) + D.up1 t).toNat)) ∧ Below w.heap.size w w') := Lib.hid (fun h1 h2 w T hT => by
    obtain ⟨h3, h4⟩ := hE h1 h2
    exact d13empty_eq c _ _ _ w hcb h4 (hT.trans h3.symm) rfl)
  have HP := Lib.hid hp
  have HB0 := Lib.hid hb0
  obtain ⟨k0, k78, k83⟩ := HC.out W hp
  have hw4 : IntKind.u8.wrap (1 - (t : Int)) = 1 - (t : Int) := by rw [IntKind.wrap_u8]; omega
  rw [hv, hpp] at HPW
  generalize D.up1 t = u at *
  generalize Z.rank t a = r at *
  generalize D.hits c a b = x1 at *
  generalize D.own c b (1 - (t : Int)) = x2 at *
  generalize D.empty c ((a : Int) + u).toNat = x3 at *
  generalize D.empty c b = x4 at *
  clear hp hb0 hc hcb ht hv hpp hE
  have hw1 : wrap64 ((a : Int) + u) = (a : Int) + u := IntWalk.wrap64_in _ ⟨by omega, by omega⟩
  have hw2 : wrap64 (2 * u) = 2 * u := IntWalk.wrap64_in _ ⟨by omega, by omega⟩
  have hw3 : wrap64 ((a : Int) + 2 * u) = (a : Int) + 2 * u := IntWalk.wrap64_in _ ⟨by omega, by omega⟩
  have HW1 := Lib.hid hw1
  clear hub p0 p1 v0 v1
  cases x1
  · by_cases q1 : (b : Int) = (a : Int) + u
    · have E := Lib.hid (show D.pawn c t a b = x4 by rw [HPW.out]; rw [if_neg (by simp), if_pos q1])
      have d1 : ((b : Int) == (a : Int) + u) = true := by simpa using q1
      clear q1
      go_enter Tryz.func182, Tryz.ntmps182
      go_wp2_with (first
        | ((with_reducible refine wp_load_box rfl _ rfl ?_); refine ⟨_, _, rfl, (by first | exact HP.out | assumption), ?_⟩)
        | (go_at_call 258; refine (HU.out _ _ (by first | rfl | omega)).mono ?_; rintro e w1 ⟨rfl, rfl⟩)
        | (go_at_call 114; refine (HR.out _ _ (by first | rfl | omega)).mono ?_; rintro e w1 ⟨rfl, rfl⟩)
        | (go_at_call 183; refine (HHi.out _).mono ?_; rintro e w1 ⟨rfl, hb1⟩; have hp1 := HP.out.below hb1; obtain ⟨m0, m78, m83⟩ := HC.out _ hp1)
        | (go_at_call 181; refine (HO.out _ _ (by first | rfl | omega)).mono ?_; rintro e w2 ⟨rfl, hb2⟩; replace hb1 := below_next hb1 hb2; have hp2 := hp1.below hb2; obtain ⟨m0, m78, m83⟩ := HC.out _ hp2)
        | (go_at_call 184; refine (HB.out _ _ (by first | rfl | omega)).mono ?_; rintro e w3 ⟨rfl, hb3⟩; replace hb1 := below_next hb1 hb3))
      go_ret
      exact ⟨ret_bool E.out.symm, below_next HB0.out hb1⟩
    have d1 : ((b : Int) == (a : Int) + u) = false := by simpa using q1
    have hPW := HPW.out
    rw [if_neg (by simp), if_neg q1] at hPW
    clear q1
    by_cases q2 : (b : Int) = (a : Int) + 2 * u
    · have d2 : ((b : Int) == (a : Int) + 2 * u) = true := by simpa using q2
      rw [decide_eq_true q2, Bool.true_and] at hPW
      have HE1 := Lib.hid (HE.out q2)
      have HQ2 := Lib.hid q2
      clear q2
      by_cases r1 : r = 1
      · have d3 : ((r : Int) == 1) = true := by simp; omega
        rw [decide_eq_true r1, Bool.true_or] at hPW
        have hr : r ≤ 1 := by omega
        clear r1
        cases x3
        · have E := Lib.hid (show D.pawn c t a b = false by rw [hPW]; try simp)
          have HE2 := Lib.hid (HE1.out (by omega))
          clear hPW hr
          go_enter Tryz.func182, Tryz.ntmps182
          go_wp2_with (first
            | ((with_reducible refine wp_load_box rfl _ rfl ?_); refine ⟨_, _, rfl, (by first | exact HP.out | assumption), ?_⟩)
            | ((with_reducible refine wp_load_box_g rfl _ rfl ?_); refine ⟨_, _, rfl, (by first | assumption | exact HP.out), ?_⟩)
            | (go_at_call 258; refine (HU.out _ _ (by first | rfl | omega)).mono ?_; rintro e w1 ⟨rfl, rfl⟩)
            | (go_at_call 114; refine (HR.out _ _ (by first | rfl | omega)).mono ?_; rintro e w1 ⟨rfl, rfl⟩)
            | (go_at_call 183; refine (HHi.out _).mono ?_; rintro e w1 ⟨rfl, hb1⟩; have hp1 := HP.out.below hb1; obtain ⟨m0, m78, m83⟩ := HC.out _ hp1)
            | (go_at_call 181; refine (HO.out _ _ (by first | rfl | omega)).mono ?_; rintro e w2 ⟨rfl, hb2⟩; replace hb1 := below_next hb1 hb2; have hp2 := hp1.below hb2; obtain ⟨m0, m78, m83⟩ := HC.out _ hp2)
            | (go_at_call 184; refine (HE2.out _ _ (by first | rfl | omega)).mono ?_; rintro e w3 ⟨rfl, hb3⟩; replace hb1 := below_next hb1 hb3; have hp2 := hp1.below hb3)
            | (go_at_call 184; refine (HB.out _ _ (by first | rfl | omega)).mono ?_; rintro e w3 ⟨rfl, hb3⟩; replace hb1 := below_next hb1 hb3))
          go_ret
          exact ⟨ret_bool E.out.symm, below_next HB0.out hb1⟩
        · have E := Lib.hid (show D.pawn c t a b = x4 by rw [hPW]; try simp)
          have HE2 := Lib.hid (HE1.out (by omega))
          clear hPW hr
          go_enter Tryz.func182, Tryz.ntmps182
          go_wp2_with (first
            | ((with_reducible refine wp_load_box rfl _ rfl ?_); refine ⟨_, _, rfl, (by first | exact HP.out | assumption), ?_⟩)
            | ((with_reducible refine wp_load_box_g rfl _ rfl ?_); refine ⟨_, _, rfl, (by first | assumption | exact HP.out), ?_⟩)
            | (go_at_call 258; refine (HU.out _ _ (by first | rfl | omega)).mono ?_; rintro e w1 ⟨rfl, rfl⟩)
            | (go_at_call 114; refine (HR.out _ _ (by first | rfl | omega)).mono ?_; rintro e w1 ⟨rfl, rfl⟩)
            | (go_at_call 183; refine (HHi.out _).mono ?_; rintro e w1 ⟨rfl, hb1⟩; have hp1 := HP.out.below hb1; obtain ⟨m0, m78, m83⟩ := HC.out _ hp1)
            | (go_at_call 181; refine (HO.out _ _ (by first | rfl | omega)).mono ?_; rintro e w2 ⟨rfl, hb2⟩; replace hb1 := below_next hb1 hb2; have hp2 := hp1.below hb2; obtain ⟨m0, m78, m83⟩ := HC.out _ hp2)
            | (go_at_call 184; refine (HE2.out _ _ (by first | rfl | omega)).mono ?_; rintro e w3 ⟨rfl, hb3⟩; replace hb1 := below_next hb1 hb3; have hp2 := hp1.below hb3)
            | (go_at_call 184; refine (HB.out _ _ (by first | rfl | omega)).mono ?_; rintro e w3 ⟨rfl, hb3⟩; replace hb1 := below_next hb1 hb3))
          go_ret
          exact ⟨ret_bool E.out.symm, below_next HB0.out hb1⟩
      · have d3 : ((r : Int) == 1) = false := by simp; omega
        rw [decide_eq_false r1, Bool.false_or] at hPW
        by_cases r0 : r = 0
        · have d4 : ((r : Int) == 0) = true := by simp; omega
          rw [decide_eq_true r0, Bool.true_and] at hPW
          have hr : r ≤ 1 := by omega
          clear r0 r1
          by_cases v7 : (v : Int) = 7
          · have d5 : ((v : Int) == 7) = true := by simpa using v7
            rw [decide_eq_true v7, Bool.true_and] at hPW
            clear v7
            by_cases t0 : t = 0
            · have d6 : ((t : Int) == 0) = true := by simp; omega
              rw [decide_eq_true t0, Bool.true_and] at hPW
              clear t0
              cases x3
              · have E := Lib.hid (show D.pawn c t a b = false by rw [hPW]; try simp)
                have HE2 := Lib.hid (HE1.out (by omega))
                clear hPW hr
                go_enter Tryz.func182, Tryz.ntmps182
                go_wp2_with (first
                  | ((with_reducible refine wp_load_box rfl _ rfl ?_); refine ⟨_, _, rfl, (by first | exact HP.out | assumption), ?_⟩)
                  | ((with_reducible refine wp_load_box_g rfl _ rfl ?_); refine ⟨_, _, rfl, (by first | assumption | exact HP.out), ?_⟩)
                  | (go_at_call 258; refine (HU.out _ _ (by first | rfl | omega)).mono ?_; rintro e w1 ⟨rfl, rfl⟩)
                  | (go_at_call 114; refine (HR.out _ _ (by first | rfl | omega)).mono ?_; rintro e w1 ⟨rfl, rfl⟩)
                  | (go_at_call 183; refine (HHi.out _).mono ?_; rintro e w1 ⟨rfl, hb1⟩; have hp1 := HP.out.below hb1; obtain ⟨m0, m78, m83⟩ := HC.out _ hp1)
                  | (go_at_call 181; refine (HO.out _ _ (by first | rfl | omega)).mono ?_; rintro e w2 ⟨rfl, hb2⟩; replace hb1 := below_next hb1 hb2; have hp2 := hp1.below hb2; obtain ⟨m0, m78, m83⟩ := HC.out _ hp2)
                  | (go_at_call 184; refine (HE2.out _ _ (by first | rfl | omega)).mono ?_; rintro e w3 ⟨rfl, hb3⟩; replace hb1 := below_next hb1 hb3; have hp2 := hp1.below hb3)
                  | (go_at_call 184; refine (HB.out _ _ (by first | rfl | omega)).mono ?_; rintro e w3 ⟨rfl, hb3⟩; replace hb1 := below_next hb1 hb3))
                go_ret
                exact ⟨ret_bool E.out.symm, below_next HB0.out hb1⟩
              · have E := Lib.hid (show D.pawn c t a b = x4 by rw [hPW]; try simp)
                have HE2 := Lib.hid (HE1.out (by omega))
                clear hPW hr
                go_enter Tryz.func182, Tryz.ntmps182
                go_wp2_with (first
                  | ((with_reducible refine wp_load_box rfl _ rfl ?_); refine ⟨_, _, rfl, (by first | exact HP.out | assumption), ?_⟩)
                  | ((with_reducible refine wp_load_box_g rfl _ rfl ?_); refine ⟨_, _, rfl, (by first | assumption | exact HP.out), ?_⟩)
                  | (go_at_call 258; refine (HU.out _ _ (by first | rfl | omega)).mono ?_; rintro e w1 ⟨rfl, rfl⟩)
                  | (go_at_call 114; refine (HR.out _ _ (by first | rfl | omega)).mono ?_; rintro e w1 ⟨rfl, rfl⟩)
                  | (go_at_call 183; refine (HHi.out _).mono ?_; rintro e w1 ⟨rfl, hb1⟩; have hp1 := HP.out.below hb1; obtain ⟨m0, m78, m83⟩ := HC.out _ hp1)
                  | (go_at_call 181; refine (HO.out _ _ (by first | rfl | omega)).mono ?_; rintro e w2 ⟨rfl, hb2⟩; replace hb1 := below_next hb1 hb2; have hp2 := hp1.below hb2; obtain ⟨m0, m78, m83⟩ := HC.out _ hp2)
                  | (go_at_call 184; refine (HE2.out _ _ (by first | rfl | omega)).mono ?_; rintro e w3 ⟨rfl, hb3⟩; replace hb1 := below_next hb1 hb3; have hp2 := hp1.below hb3)
                  | (go_at_call 184; refine (HB.out _ _ (by first | rfl | omega)).mono ?_; rintro e w3 ⟨rfl, hb3⟩; replace hb1 := below_next hb1 hb3))
                go_ret
                exact ⟨ret_bool E.out.symm, below_next HB0.out hb1⟩
            · have d6 : ((t : Int) == 0) = false := by simp; omega
              rw [decide_eq_false t0, Bool.false_and] at hPW
              clear t0
              have E := Lib.hid (show D.pawn c t a b = false by rw [hPW]; try simp)
              clear hPW hr
              go_enter Tryz.func182, Tryz.ntmps182
              go_wp2_with (first
                | ((with_reducible refine wp_load_box rfl _ rfl ?_); refine ⟨_, _, rfl, (by first | exact HP.out | assumption), ?_⟩)
                | (go_at_call 258; refine (HU.out _ _ (by first | rfl | omega)).mono ?_; rintro e w1 ⟨rfl, rfl⟩)
                | (go_at_call 114; refine (HR.out _ _ (by first | rfl | omega)).mono ?_; rintro e w1 ⟨rfl, rfl⟩)
                | (go_at_call 183; refine (HHi.out _).mono ?_; rintro e w1 ⟨rfl, hb1⟩; have hp1 := HP.out.below hb1; obtain ⟨m0, m78, m83⟩ := HC.out _ hp1)
                | (go_at_call 181; refine (HO.out _ _ (by first | rfl | omega)).mono ?_; rintro e w2 ⟨rfl, hb2⟩; replace hb1 := below_next hb1 hb2; have hp2 := hp1.below hb2; obtain ⟨m0, m78, m83⟩ := HC.out _ hp2)
                | (go_at_call 184; refine (HB.out _ _ (by first | rfl | omega)).mono ?_; rintro e w3 ⟨rfl, hb3⟩; replace hb1 := below_next hb1 hb3))
              go_ret
              exact ⟨ret_bool E.out.symm, below_next HB0.out hb1⟩
          · have d5 : ((v : Int) == 7) = false := by simpa using v7
            rw [decide_eq_false v7, Bool.false_and] at hPW
            clear v7
            have E := Lib.hid (show D.pawn c t a b = false by rw [hPW]; try simp)
            clear hPW hr
            go_enter Tryz.func182, Tryz.ntmps182
            go_wp2_with (first
              | ((with_reducible refine wp_load_box rfl _ rfl ?_); refine ⟨_, _, rfl, (by first | exact HP.out | assumption), ?_⟩)
              | (go_at_call 258; refine (HU.out _ _ (by first | rfl | omega)).mono ?_; rintro e w1 ⟨rfl, rfl⟩)
              | (go_at_call 114; refine (HR.out _ _ (by first | rfl | omega)).mono ?_; rintro e w1 ⟨rfl, rfl⟩)
              | (go_at_call 183; refine (HHi.out _).mono ?_; rintro e w1 ⟨rfl, hb1⟩; have hp1 := HP.out.below hb1; obtain ⟨m0, m78, m83⟩ := HC.out _ hp1)
              | (go_at_call 181; refine (HO.out _ _ (by first | rfl | omega)).mono ?_; rintro e w2 ⟨rfl, hb2⟩; replace hb1 := below_next hb1 hb2; have hp2 := hp1.below hb2; obtain ⟨m0, m78, m83⟩ := HC.out _ hp2)
              | (go_at_call 184; refine (HB.out _ _ (by first | rfl | omega)).mono ?_; rintro e w3 ⟨rfl, hb3⟩; replace hb1 := below_next hb1 hb3))
            go_ret
            exact ⟨ret_bool E.out.symm, below_next HB0.out hb1⟩
        · have d4 : ((r : Int) == 0) = false := by simp; omega
          rw [decide_eq_false r0, Bool.false_and] at hPW
          have hr : 1 < r := by omega
          clear r0 r1
          have E := Lib.hid (show D.pawn c t a b = false by rw [hPW]; try simp)
          clear hPW hr
          go_enter Tryz.func182, Tryz.ntmps182
          go_wp2_with (first
            | ((with_reducible refine wp_load_box rfl _ rfl ?_); refine ⟨_, _, rfl, (by first | exact HP.out | assumption), ?_⟩)
            | (go_at_call 258; refine (HU.out _ _ (by first | rfl | omega)).mono ?_; rintro e w1 ⟨rfl, rfl⟩)
            | (go_at_call 114; refine (HR.out _ _ (by first | rfl | omega)).mono ?_; rintro e w1 ⟨rfl, rfl⟩)
            | (go_at_call 183; refine (HHi.out _).mono ?_; rintro e w1 ⟨rfl, hb1⟩; have hp1 := HP.out.below hb1; obtain ⟨m0, m78, m83⟩ := HC.out _ hp1)
            | (go_at_call 181; refine (HO.out _ _ (by first | rfl | omega)).mono ?_; rintro e w2 ⟨rfl, hb2⟩; replace hb1 := below_next hb1 hb2; have hp2 := hp1.below hb2; obtain ⟨m0, m78, m83⟩ := HC.out _ hp2)
            | (go_at_call 184; refine (HB.out _ _ (by first | rfl | omega)).mono ?_; rintro e w3 ⟨rfl, hb3⟩; replace hb1 := below_next hb1 hb3))
          go_ret
          exact ⟨ret_bool E.out.symm, below_next HB0.out hb1⟩
    · have d2 : ((b : Int) == (a : Int) + 2 * u) = false := by simpa using q2
      rw [decide_eq_false q2, Bool.false_and] at hPW
      have E := Lib.hid hPW
      clear q2 hPW
      by_cases r1 : r = 1
      · have d3 : ((r : Int) == 1) = true := by simp; omega
        clear r1
        go_enter Tryz.func182, Tryz.ntmps182
        go_wp2_with (first
          | ((with_reducible refine wp_load_box rfl _ rfl ?_); refine ⟨_, _, rfl, (by first | exact HP.out | assumption), ?_⟩)
          | (go_at_call 258; refine (HU.out _ _ (by first | rfl | omega)).mono ?_; rintro e w1 ⟨rfl, rfl⟩)
          | (go_at_call 114; refine (HR.out _ _ (by first | rfl | omega)).mono ?_; rintro e w1 ⟨rfl, rfl⟩)
          | (go_at_call 183; refine (HHi.out _).mono ?_; rintro e w1 ⟨rfl, hb1⟩; have hp1 := HP.out.below hb1; obtain ⟨m0, m78, m83⟩ := HC.out _ hp1)
          | (go_at_call 181; refine (HO.out _ _ (by first | rfl | omega)).mono ?_; rintro e w2 ⟨rfl, hb2⟩; replace hb1 := below_next hb1 hb2; have hp2 := hp1.below hb2; obtain ⟨m0, m78, m83⟩ := HC.out _ hp2)
          | (go_at_call 184; refine (HB.out _ _ (by first | rfl | omega)).mono ?_; rintro e w3 ⟨rfl, hb3⟩; replace hb1 := below_next hb1 hb3))
        go_ret
        exact ⟨ret_bool E.out.symm, below_next HB0.out hb1⟩
      · have d3 : ((r : Int) == 1) = false := by simp; omega
        by_cases r0 : r = 0
        · have d4 : ((r : Int) == 0) = true := by simp; omega
          clear r0 r1
          by_cases v7 : (v : Int) = 7
          · have d5 : ((v : Int) == 7) = true := by simpa using v7
            clear v7
            by_cases t0 : t = 0
            · have d6 : ((t : Int) == 0) = true := by simp; omega
              clear t0
              go_enter Tryz.func182, Tryz.ntmps182
              go_wp2_with (first
                | ((with_reducible refine wp_load_box rfl _ rfl ?_); refine ⟨_, _, rfl, (by first | exact HP.out | assumption), ?_⟩)
                | (go_at_call 258; refine (HU.out _ _ (by first | rfl | omega)).mono ?_; rintro e w1 ⟨rfl, rfl⟩)
                | (go_at_call 114; refine (HR.out _ _ (by first | rfl | omega)).mono ?_; rintro e w1 ⟨rfl, rfl⟩)
                | (go_at_call 183; refine (HHi.out _).mono ?_; rintro e w1 ⟨rfl, hb1⟩; have hp1 := HP.out.below hb1; obtain ⟨m0, m78, m83⟩ := HC.out _ hp1)
                | (go_at_call 181; refine (HO.out _ _ (by first | rfl | omega)).mono ?_; rintro e w2 ⟨rfl, hb2⟩; replace hb1 := below_next hb1 hb2; have hp2 := hp1.below hb2; obtain ⟨m0, m78, m83⟩ := HC.out _ hp2)
                | (go_at_call 184; refine (HB.out _ _ (by first | rfl | omega)).mono ?_; rintro e w3 ⟨rfl, hb3⟩; replace hb1 := below_next hb1 hb3))
              go_ret
              exact ⟨ret_bool E.out.symm, below_next HB0.out hb1⟩
            · have d6 : ((t : Int) == 0) = false := by simp; omega
              clear t0
              go_enter Tryz.func182, Tryz.ntmps182
              go_wp2_with (first
                | ((with_reducible refine wp_load_box rfl _ rfl ?_); refine ⟨_, _, rfl, (by first | exact HP.out | assumption), ?_⟩)
                | (go_at_call 258; refine (HU.out _ _ (by first | rfl | omega)).mono ?_; rintro e w1 ⟨rfl, rfl⟩)
                | (go_at_call 114; refine (HR.out _ _ (by first | rfl | omega)).mono ?_; rintro e w1 ⟨rfl, rfl⟩)
                | (go_at_call 183; refine (HHi.out _).mono ?_; rintro e w1 ⟨rfl, hb1⟩; have hp1 := HP.out.below hb1; obtain ⟨m0, m78, m83⟩ := HC.out _ hp1)
                | (go_at_call 181; refine (HO.out _ _ (by first | rfl | omega)).mono ?_; rintro e w2 ⟨rfl, hb2⟩; replace hb1 := below_next hb1 hb2; have hp2 := hp1.below hb2; obtain ⟨m0, m78, m83⟩ := HC.out _ hp2)
                | (go_at_call 184; refine (HB.out _ _ (by first | rfl | omega)).mono ?_; rintro e w3 ⟨rfl, hb3⟩; replace hb1 := below_next hb1 hb3))
              go_ret
              exact ⟨ret_bool E.out.symm, below_next HB0.out hb1⟩
          · have d5 : ((v : Int) == 7) = false := by simpa using v7
            clear v7
            go_enter Tryz.func182, Tryz.ntmps182
            go_wp2_with (first
              | ((with_reducible refine wp_load_box rfl _ rfl ?_); refine ⟨_, _, rfl, (by first | exact HP.out | assumption), ?_⟩)
              | (go_at_call 258; refine (HU.out _ _ (by first | rfl | omega)).mono ?_; rintro e w1 ⟨rfl, rfl⟩)
              | (go_at_call 114; refine (HR.out _ _ (by first | rfl | omega)).mono ?_; rintro e w1 ⟨rfl, rfl⟩)
              | (go_at_call 183; refine (HHi.out _).mono ?_; rintro e w1 ⟨rfl, hb1⟩; have hp1 := HP.out.below hb1; obtain ⟨m0, m78, m83⟩ := HC.out _ hp1)
              | (go_at_call 181; refine (HO.out _ _ (by first | rfl | omega)).mono ?_; rintro e w2 ⟨rfl, hb2⟩; replace hb1 := below_next hb1 hb2; have hp2 := hp1.below hb2; obtain ⟨m0, m78, m83⟩ := HC.out _ hp2)
              | (go_at_call 184; refine (HB.out _ _ (by first | rfl | omega)).mono ?_; rintro e w3 ⟨rfl, hb3⟩; replace hb1 := below_next hb1 hb3))
            go_ret
            exact ⟨ret_bool E.out.symm, below_next HB0.out hb1⟩
        · have d4 : ((r : Int) == 0) = false := by simp; omega
          clear r0 r1
          go_enter Tryz.func182, Tryz.ntmps182
          go_wp2_with (first
            | ((with_reducible refine wp_load_box rfl _ rfl ?_); refine ⟨_, _, rfl, (by first | exact HP.out | assumption), ?_⟩)
            | (go_at_call 258; refine (HU.out _ _ (by first | rfl | omega)).mono ?_; rintro e w1 ⟨rfl, rfl⟩)
            | (go_at_call 114; refine (HR.out _ _ (by first | rfl | omega)).mono ?_; rintro e w1 ⟨rfl, rfl⟩)
            | (go_at_call 183; refine (HHi.out _).mono ?_; rintro e w1 ⟨rfl, hb1⟩; have hp1 := HP.out.below hb1; obtain ⟨m0, m78, m83⟩ := HC.out _ hp1)
            | (go_at_call 181; refine (HO.out _ _ (by first | rfl | omega)).mono ?_; rintro e w2 ⟨rfl, hb2⟩; replace hb1 := below_next hb1 hb2; have hp2 := hp1.below hb2; obtain ⟨m0, m78, m83⟩ := HC.out _ hp2)
            | (go_at_call 184; refine (HB.out _ _ (by first | rfl | omega)).mono ?_; rintro e w3 ⟨rfl, hb3⟩; replace hb1 := below_next hb1 hb3))
          go_ret
          exact ⟨ret_bool E.out.symm, below_next HB0.out hb1⟩
  · cases x2
    · have E := Lib.hid (show D.pawn c t a b = (p == (b : Int)) by rw [HPW.out]; rw [if_pos rfl, Bool.false_or])
      go_enter Tryz.func182, Tryz.ntmps182
      go_wp2_with (first
        | ((with_reducible refine wp_load_box rfl _ rfl ?_); refine ⟨_, _, rfl, (by first | exact HP.out | assumption), ?_⟩)
        | (go_at_call 258; refine (HU.out _ _ (by first | rfl | omega)).mono ?_; rintro e w1 ⟨rfl, rfl⟩)
        | (go_at_call 114; refine (HR.out _ _ (by first | rfl | omega)).mono ?_; rintro e w1 ⟨rfl, rfl⟩)
        | (go_at_call 183; refine (HHi.out _).mono ?_; rintro e w1 ⟨rfl, hb1⟩; have hp1 := HP.out.below hb1; obtain ⟨m0, m78, m83⟩ := HC.out _ hp1)
        | (go_at_call 181; refine (HO.out _ _ (by first | rfl | omega)).mono ?_; rintro e w2 ⟨rfl, hb2⟩; replace hb1 := below_next hb1 hb2; have hp2 := hp1.below hb2; obtain ⟨m0, m78, m83⟩ := HC.out _ hp2)
        | (go_at_call 184; refine (HB.out _ _ (by first | rfl | omega)).mono ?_; rintro e w3 ⟨rfl, hb3⟩; replace hb1 := below_next hb1 hb3))
      go_ret
      exact ⟨ret_bool E.out.symm, below_next HB0.out hb1⟩
    · have E := Lib.hid (show D.pawn c t a b = true by rw [HPW.out]; rw [if_pos rfl, Bool.true_or])
      go_enter Tryz.func182, Tryz.ntmps182
      go_wp2_with (first
        | ((with_reducible refine wp_load_box rfl _ rfl ?_); refine ⟨_, _, rfl, (by first | exact HP.out | assumption), ?_⟩)
        | (go_at_call 258; refine (HU.out _ _ (by first | rfl | omega)).mono ?_; rintro e w1 ⟨rfl, rfl⟩)
        | (go_at_call 114; refine (HR.out _ _ (by first | rfl | omega)).mono ?_; rintro e w1 ⟨rfl, rfl⟩)
        | (go_at_call 183; refine (HHi.out _).mono ?_; rintro e w1 ⟨rfl, hb1⟩; have hp1 := HP.out.below hb1; obtain ⟨m0, m78, m83⟩ := HC.out _ hp1)
        | (go_at_call 181; refine (HO.out _ _ (by first | rfl | omega)).mono ?_; rintro e w2 ⟨rfl, hb2⟩; replace hb1 := below_next hb1 hb2; have hp2 := hp1.below hb2; obtain ⟨m0, m78, m83⟩ := HC.out _ hp2)
        | (go_at_call 184; refine (HB.out _ _ (by first | rfl | omega)).mono ?_; rintro e w3 ⟨rfl, hb3⟩; replace hb1 := below_next hb1 hb3))
      go_ret
      exact ⟨ret_bool E.out.symm, below_next HB0.out hb1⟩
end Go.Proofs.YtgkndhpolcnjbaaGreatDoor
