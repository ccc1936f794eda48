/- The document's answer of layer 12 (valid): Right. -/
import Derived.Test.YtlphjjekamhnlaaDoorDvA
import Derived.Test.YtlphjjekamhnlaaDoorVpC
namespace Go.Proofs.YtlphjjekamhnlaaDoor
open Go.RowKit Go.Sort
attribute [local go_sem] Oper.semAt_some

set_option maxHeartbeats 1000000 in
theorem d12castles_any (v : Int) (w : World) : Calls Tryd.prog 71 #[.int .u8 v] w fun e w' => e = .returned (.bool (V.castles v)) ∧ w = w' := by
  have HE := Lib.hid (show V.castles v = (decide (v < 9) && (v != 4 && v != 8)) from rfl)
  by_cases h9 : v < 9
  · have d9 : decide (v < 9) = true := decide_eq_true h9
    cases f4 : (v != 4)
    · have E := Lib.hid (show V.castles v = false by rw [HE.out, f4]; simp)
      clear h9
      go_enter Tryd.func71, Tryd.ntmps71
      go_wp2
      go_ret
      exact ⟨ret_bool E.out.symm, rfl⟩
    · cases f8 : (v != 8)
      all_goals
        have E := Lib.hid (show V.castles v = _ by rw [HE.out, f4, f8, d9])
        clear h9
        go_enter Tryd.func71, Tryd.ntmps71
        go_wp2
        go_ret
        exact ⟨ret_bool E.out.symm, rfl⟩
  · have d9 : decide (v < 9) = false := decide_eq_false h9
    have E := Lib.hid (show V.castles v = false by rw [HE.out, d9]; rfl)
    clear h9
    go_enter Tryd.func71, Tryd.ntmps71
    go_wp2
    go_ret
    exact ⟨ret_bool E.out.symm, rfl⟩

set_option maxRecDepth 100000 in
set_option maxHeartbeats 8000000 in
theorem d12right_00 (c : Nat → Int) (w : World) (hc : PosOk c) (hlo : -1 ≤ c 79) (h7 : c 79 ≤ 7) :
    Calls Tryd.prog 39 #[.agg (posC c), .int .u8 0, .int .i64 0] w fun e w' => e = .returned (.bool (Y.right c 0 0)) ∧ Below w.heap.size w w' := by
  have hp := PosAt.new w c
  have ci := hp.cellK 79 (by decide) .i8 rfl
  have c0 := hp.cellK 0 (by decide) .u8 rfl
  by_cases hf : c 79 = -1
  · rw [hf] at ci
    have E := Lib.hid (show Y.right c 0 0 = true by unfold Y.right; rw [show 79 + 2 * 0 + 0 = 79 from rfl, hf]; rfl)
    clear hf h7 hc hlo
    go_enter Tryd.func39, Tryd.ntmps39
    go_wp2
    go_ret
    exact ⟨ret_bool E.out.symm, (Below.refl _ _).alloc (Nat.le_refl _) _⟩
  obtain ⟨f, hff⟩ : ∃ f : Nat, c 79 = (f : Int) := ⟨(c 79).toNat, by omega⟩
  rw [hff] at ci h7
  have hsq : 0 + f < 64 := by omega
  have hs : 0 + f = f := by omega
  obtain ⟨k0, k1⟩ := find_bd c 0 (pos_bd hc)
  obtain ⟨K, hK⟩ : ∃ K, S.find c 0 6 = K := ⟨_, rfl⟩
  rw [hK] at k0 k1
  obtain ⟨y, hy⟩ : ∃ y, c (1 + f) = y := ⟨_, rfl⟩
  obtain ⟨cas, hcas⟩ : ∃ cas, V.castles (c 0) = cas := ⟨_, rfl⟩
  have HFind : Hid (∀ w, Calls Tryd.prog 72 #[.agg (posC c), .int .u8 0, .int .u8 6] w fun e w' => e = .returned (.int .i64 K) ∧ Below w.heap.size w w') := Lib.hid (fun w => by
    rw [← hK, find_eq c 0 (pos_bd hc)]
    exact d8find_any c 0 6 w (pos_bd hc))
  have HCas : Hid (∀ w, Calls Tryd.prog 71 #[.int .u8 (c 0)] w fun e w' => e = .returned (.bool cas) ∧ w = w') := Lib.hid (fun w => by
    rw [← hcas]
    exact d12castles_any (c 0) w)
  have HIs : Hid (∀ w, Calls Tryd.prog 73 #[.agg (posC c), .int .i64 (f : Int), .int .u8 0, .int .u8 4] w fun e w' => e = .returned (.bool (y == 4)) ∧ Below w.heap.size w w') := Lib.hid (fun w => by
    have := is12 c f 0 4 (pos_bd hc) (by omega) (by omega) (by omega)
    rw [hy] at this
    rw [show (y == 4) = (y == 8 * 0 + 4) from rfl, ← this]
    exact d8is_any c f 0 4 w (pos_bd hc) (by omega))
  have HE := Lib.hid (show Y.right c 0 0 = (cas && ((decide (0 ≤ K) && decide (K ≤ 7)) && ((y == 4) && ((c 0 == 1 || (K == 4 && (f : Int) == 7)) && decide (K < (f : Int)))))) by
    have hfl : Y.file c 0 = K := by
      show S.find c 0 6 - 0 = _
      rw [hK]; omega
    unfold Y.right Y.right' Y.dir
    rw [hfl, show 79 + 2 * 0 + 0 = 79 from rfl, hff, hcas, decide_eq_false (show ¬ (f : Int) < 0 by omega), Int.toNat_natCast, show 56 * 0 + f = f by omega, hy]
    rfl)
  have hb0 : Below w.heap.size w (w.alloc (.cells (posC c) 31)) := (Below.refl _ _).alloc (Nat.le_refl _) _
  have HW := Lib.hid (And.intro hp hb0)
  have dfn : ((f : Int) == -1) = false := beq_eq_false_iff_ne.2 (by omega)
  have e1 : IntKind.i64.wrap (0 + (f : Int)) = (f : Int) := by rw [IntKind.wrap_i64]; omega
  have e1w : wrap64 (0 + (f : Int)) = (f : Int) := IntWalk.wrap64_in _ ⟨by omega, by omega⟩ |>.trans (by omega)
  clear hf hff hK hy hcas hb0 hc hlo hs hsq hp
  cases cas
  · have E := Lib.hid (HE.out.trans rfl)
    clear HE
    go_enter Tryd.func39, Tryd.ntmps39
    go_wp2_with (first | ((with_reducible refine wp_load_box_g rfl _ rfl ?_); refine ⟨_, _, rfl, hp2, ?_⟩) | ((with_reducible refine wp_load_box_g rfl _ rfl ?_); refine ⟨_, _, rfl, HW.out.1, ?_⟩) | (go_at_call 71; refine (HCas.out _).mono ?_; rintro e w' ⟨rfl, rfl⟩) | (go_at_call 72; refine (HFind.out _).mono ?_; rintro e w2 ⟨rfl, hb2⟩; have hp2 := HW.out.1.below hb2; have hbr2 := below_next HW.out.2 hb2; have c0' := hp2.cellK 0 (by decide) .u8 rfl) | (go_at_call 73; refine (HIs.out _).mono ?_; rintro e w3 ⟨rfl, hb3⟩; have hp3 := hp2.below hb3; have hbr3 := below_next hbr2 hb3; have c0'' := hp3.cellK 0 (by decide) .u8 rfl))
    go_ret
    exact ⟨ret_bool E.out.symm, HW.out.2⟩
  · by_cases g0 : K < 0
    · have d0 : decide (K < 0) = true := decide_eq_true g0
      have E := Lib.hid (show Y.right c 0 0 = false by rw [HE.out, decide_eq_false (show ¬ 0 ≤ K by omega)]; rfl)
      clear HE g0
      go_enter Tryd.func39, Tryd.ntmps39
      go_wp2_with (first | ((with_reducible refine wp_load_box_g rfl _ rfl ?_); refine ⟨_, _, rfl, hp2, ?_⟩) | ((with_reducible refine wp_load_box_g rfl _ rfl ?_); refine ⟨_, _, rfl, HW.out.1, ?_⟩) | (go_at_call 71; refine (HCas.out _).mono ?_; rintro e w' ⟨rfl, rfl⟩) | (go_at_call 72; refine (HFind.out _).mono ?_; rintro e w2 ⟨rfl, hb2⟩; have hp2 := HW.out.1.below hb2; have hbr2 := below_next HW.out.2 hb2; have c0' := hp2.cellK 0 (by decide) .u8 rfl) | (go_at_call 73; refine (HIs.out _).mono ?_; rintro e w3 ⟨rfl, hb3⟩; have hp3 := hp2.below hb3; have hbr3 := below_next hbr2 hb3; have c0'' := hp3.cellK 0 (by decide) .u8 rfl))
      go_ret
      exact ⟨ret_bool E.out.symm, hbr2⟩
    · have d0 : decide (K < 0) = false := decide_eq_false g0
      obtain ⟨n, rfl⟩ : ∃ n : Nat, K = (n : Int) := ⟨K.toNat, by omega⟩
      obtain ⟨q, hq⟩ : ∃ q : Nat, n / 8 = q := ⟨_, rfl⟩
      have hq1 : (n : Int).tdiv 8 = (q : Int) := by rw [Int.tdiv_eq_ediv_of_nonneg (by omega)]; omega
      have hq2 : (n : Int) / 8 = (q : Int) := by omega
      by_cases gq : q = 0
      rotate_left
      · have dq : ((q : Int) != 0) = true := by simp; omega
        have E := Lib.hid (show Y.right c 0 0 = false by
          rw [HE.out]
          by_cases g1 : 0 ≤ (n : Int)
          · rw [decide_eq_false (show ¬ (n : Int) ≤ 7 by omega), Bool.and_false]; rfl
          · rw [decide_eq_false g1]; rfl)
        clear HE g0 gq hq
        go_enter Tryd.func39, Tryd.ntmps39
        go_wp2_with (first | ((with_reducible refine wp_load_box_g rfl _ rfl ?_); refine ⟨_, _, rfl, hp2, ?_⟩) | ((with_reducible refine wp_load_box_g rfl _ rfl ?_); refine ⟨_, _, rfl, HW.out.1, ?_⟩) | (go_at_call 71; refine (HCas.out _).mono ?_; rintro e w' ⟨rfl, rfl⟩) | (go_at_call 72; refine (HFind.out _).mono ?_; rintro e w2 ⟨rfl, hb2⟩; have hp2 := HW.out.1.below hb2; have hbr2 := below_next HW.out.2 hb2; have c0' := hp2.cellK 0 (by decide) .u8 rfl) | (go_at_call 73; refine (HIs.out _).mono ?_; rintro e w3 ⟨rfl, hb3⟩; have hp3 := hp2.below hb3; have hbr3 := below_next hbr2 hb3; have c0'' := hp3.cellK 0 (by decide) .u8 rfl))
        go_ret
        exact ⟨ret_bool E.out.symm, hbr2⟩
      subst gq
      obtain ⟨J, hJ⟩ : ∃ J : Int, (n : Int) = J := ⟨_, rfl⟩
      have hm1 : (n : Int).tmod 8 = J := by rw [Int.tmod_eq_emod_of_nonneg (by omega)]; omega
      have hm2 : (n : Int) % 8 = J := by omega
      have HE2 := Lib.hid (show Y.right c 0 0 = ((y == 4) && ((c 0 == 1 || (J == 4 && (f : Int) == 7)) && decide (J < (f : Int)))) by
        rw [HE.out, show (n : Int) = J from hJ, decide_eq_true (show 0 ≤ J by omega), decide_eq_true (show J ≤ 7 by omega)]
        rfl)
      have hq1' : (n : Int).tdiv 8 = 0 := hq1
      have hq2' : (n : Int) / 8 = 0 := hq2
      clear HE g0 hq hq1 hq2 hJ
      cases hx : (y == 4)
      · have E := Lib.hid (show Y.right c 0 0 = false by rw [HE2.out, hx]; rfl)
        rw [hx] at HIs
        clear HE2
        go_enter Tryd.func39, Tryd.ntmps39
        go_wp2_with (first | ((with_reducible refine wp_load_box_g rfl _ rfl ?_); refine ⟨_, _, rfl, hp2, ?_⟩) | ((with_reducible refine wp_load_box_g rfl _ rfl ?_); refine ⟨_, _, rfl, HW.out.1, ?_⟩) | (go_at_call 71; refine (HCas.out _).mono ?_; rintro e w' ⟨rfl, rfl⟩) | (go_at_call 72; refine (HFind.out _).mono ?_; rintro e w2 ⟨rfl, hb2⟩; have hp2 := HW.out.1.below hb2; have hbr2 := below_next HW.out.2 hb2; have c0' := hp2.cellK 0 (by decide) .u8 rfl) | (go_at_call 73; refine (HIs.out _).mono ?_; rintro e w3 ⟨rfl, hb3⟩; have hp3 := hp2.below hb3; have hbr3 := below_next hbr2 hb3; have c0'' := hp3.cellK 0 (by decide) .u8 rfl))
        go_ret
        exact ⟨ret_bool E.out.symm, hbr3⟩
      · rw [hx] at HIs HE2
        cases f1 : (c 0 != 1) <;> cases f2 : (J != 4) <;> cases f3 : ((f : Int) != 7) <;> cases f4 : decide (J < (f : Int))
        all_goals
          have E := Lib.hid (show Y.right c 0 0 = _ by rw [HE2.out, f4, eq_not_ne (c 0), eq_not_ne J, eq_not_ne (f : Int), f1, f2, f3])
          clear HE2
          go_enter Tryd.func39, Tryd.ntmps39
          go_wp2_with (first | ((with_reducible refine wp_load_box_g rfl _ rfl ?_); refine ⟨_, _, rfl, hp2, ?_⟩) | ((with_reducible refine wp_load_box_g rfl _ rfl ?_); refine ⟨_, _, rfl, HW.out.1, ?_⟩) | (go_at_call 71; refine (HCas.out _).mono ?_; rintro e w' ⟨rfl, rfl⟩) | (go_at_call 72; refine (HFind.out _).mono ?_; rintro e w2 ⟨rfl, hb2⟩; have hp2 := HW.out.1.below hb2; have hbr2 := below_next HW.out.2 hb2; have c0' := hp2.cellK 0 (by decide) .u8 rfl) | (go_at_call 73; refine (HIs.out _).mono ?_; rintro e w3 ⟨rfl, hb3⟩; have hp3 := hp2.below hb3; have hbr3 := below_next hbr2 hb3; have c0'' := hp3.cellK 0 (by decide) .u8 rfl))
          go_ret
          exact ⟨ret_bool E.out.symm, hbr3⟩

set_option maxRecDepth 100000 in
set_option maxHeartbeats 8000000 in
theorem d12right_01 (c : Nat → Int) (w : World) (hc : PosOk c) (hlo : -1 ≤ c 80) (h7 : c 80 ≤ 7) :
    Calls Tryd.prog 39 #[.agg (posC c), .int .u8 0, .int .i64 1] w fun e w' => e = .returned (.bool (Y.right c 0 1)) ∧ Below w.heap.size w w' := by
  have hp := PosAt.new w c
  have ci := hp.cellK 80 (by decide) .i8 rfl
  have c0 := hp.cellK 0 (by decide) .u8 rfl
  by_cases hf : c 80 = -1
  · rw [hf] at ci
    have E := Lib.hid (show Y.right c 0 1 = true by unfold Y.right; rw [show 79 + 2 * 0 + 1 = 80 from rfl, hf]; rfl)
    clear hf h7 hc hlo
    go_enter Tryd.func39, Tryd.ntmps39
    go_wp2
    go_ret
    exact ⟨ret_bool E.out.symm, (Below.refl _ _).alloc (Nat.le_refl _) _⟩
  obtain ⟨f, hff⟩ : ∃ f : Nat, c 80 = (f : Int) := ⟨(c 80).toNat, by omega⟩
  rw [hff] at ci h7
  have hsq : 0 + f < 64 := by omega
  have hs : 0 + f = f := by omega
  obtain ⟨k0, k1⟩ := find_bd c 0 (pos_bd hc)
  obtain ⟨K, hK⟩ : ∃ K, S.find c 0 6 = K := ⟨_, rfl⟩
  rw [hK] at k0 k1
  obtain ⟨y, hy⟩ : ∃ y, c (1 + f) = y := ⟨_, rfl⟩
  obtain ⟨cas, hcas⟩ : ∃ cas, V.castles (c 0) = cas := ⟨_, rfl⟩
  have HFind : Hid (∀ w, Calls Tryd.prog 72 #[.agg (posC c), .int .u8 0, .int .u8 6] w fun e w' => e = .returned (.int .i64 K) ∧ Below w.heap.size w w') := Lib.hid (fun w => by
    rw [← hK, find_eq c 0 (pos_bd hc)]
    exact d8find_any c 0 6 w (pos_bd hc))
  have HCas : Hid (∀ w, Calls Tryd.prog 71 #[.int .u8 (c 0)] w fun e w' => e = .returned (.bool cas) ∧ w = w') := Lib.hid (fun w => by
    rw [← hcas]
    exact d12castles_any (c 0) w)
  have HIs : Hid (∀ w, Calls Tryd.prog 73 #[.agg (posC c), .int .i64 (f : Int), .int .u8 0, .int .u8 4] w fun e w' => e = .returned (.bool (y == 4)) ∧ Below w.heap.size w w') := Lib.hid (fun w => by
    have := is12 c f 0 4 (pos_bd hc) (by omega) (by omega) (by omega)
    rw [hy] at this
    rw [show (y == 4) = (y == 8 * 0 + 4) from rfl, ← this]
    exact d8is_any c f 0 4 w (pos_bd hc) (by omega))
  have HE := Lib.hid (show Y.right c 0 1 = (cas && ((decide (0 ≤ K) && decide (K ≤ 7)) && ((y == 4) && ((c 0 == 1 || (K == 4 && (f : Int) == 0)) && decide ((f : Int) < K))))) by
    have hfl : Y.file c 0 = K := by
      show S.find c 0 6 - 0 = _
      rw [hK]; omega
    unfold Y.right Y.right' Y.dir
    rw [hfl, show 79 + 2 * 0 + 1 = 80 from rfl, hff, hcas, decide_eq_false (show ¬ (f : Int) < 0 by omega), Int.toNat_natCast, show 56 * 0 + f = f by omega, hy]
    rfl)
  have hb0 : Below w.heap.size w (w.alloc (.cells (posC c) 31)) := (Below.refl _ _).alloc (Nat.le_refl _) _
  have HW := Lib.hid (And.intro hp hb0)
  have dfn : ((f : Int) == -1) = false := beq_eq_false_iff_ne.2 (by omega)
  have e1 : IntKind.i64.wrap (0 + (f : Int)) = (f : Int) := by rw [IntKind.wrap_i64]; omega
  have e1w : wrap64 (0 + (f : Int)) = (f : Int) := IntWalk.wrap64_in _ ⟨by omega, by omega⟩ |>.trans (by omega)
  clear hf hff hK hy hcas hb0 hc hlo hs hsq hp
  cases cas
  · have E := Lib.hid (HE.out.trans rfl)
    clear HE
    go_enter Tryd.func39, Tryd.ntmps39
    go_wp2_with (first | ((with_reducible refine wp_load_box_g rfl _ rfl ?_); refine ⟨_, _, rfl, hp2, ?_⟩) | ((with_reducible refine wp_load_box_g rfl _ rfl ?_); refine ⟨_, _, rfl, HW.out.1, ?_⟩) | (go_at_call 71; refine (HCas.out _).mono ?_; rintro e w' ⟨rfl, rfl⟩) | (go_at_call 72; refine (HFind.out _).mono ?_; rintro e w2 ⟨rfl, hb2⟩; have hp2 := HW.out.1.below hb2; have hbr2 := below_next HW.out.2 hb2; have c0' := hp2.cellK 0 (by decide) .u8 rfl) | (go_at_call 73; refine (HIs.out _).mono ?_; rintro e w3 ⟨rfl, hb3⟩; have hp3 := hp2.below hb3; have hbr3 := below_next hbr2 hb3; have c0'' := hp3.cellK 0 (by decide) .u8 rfl))
    go_ret
    exact ⟨ret_bool E.out.symm, HW.out.2⟩
  · by_cases g0 : K < 0
    · have d0 : decide (K < 0) = true := decide_eq_true g0
      have E := Lib.hid (show Y.right c 0 1 = false by rw [HE.out, decide_eq_false (show ¬ 0 ≤ K by omega)]; rfl)
      clear HE g0
      go_enter Tryd.func39, Tryd.ntmps39
      go_wp2_with (first | ((with_reducible refine wp_load_box_g rfl _ rfl ?_); refine ⟨_, _, rfl, hp2, ?_⟩) | ((with_reducible refine wp_load_box_g rfl _ rfl ?_); refine ⟨_, _, rfl, HW.out.1, ?_⟩) | (go_at_call 71; refine (HCas.out _).mono ?_; rintro e w' ⟨rfl, rfl⟩) | (go_at_call 72; refine (HFind.out _).mono ?_; rintro e w2 ⟨rfl, hb2⟩; have hp2 := HW.out.1.below hb2; have hbr2 := below_next HW.out.2 hb2; have c0' := hp2.cellK 0 (by decide) .u8 rfl) | (go_at_call 73; refine (HIs.out _).mono ?_; rintro e w3 ⟨rfl, hb3⟩; have hp3 := hp2.below hb3; have hbr3 := below_next hbr2 hb3; have c0'' := hp3.cellK 0 (by decide) .u8 rfl))
      go_ret
      exact ⟨ret_bool E.out.symm, hbr2⟩
    · have d0 : decide (K < 0) = false := decide_eq_false g0
      obtain ⟨n, rfl⟩ : ∃ n : Nat, K = (n : Int) := ⟨K.toNat, by omega⟩
      obtain ⟨q, hq⟩ : ∃ q : Nat, n / 8 = q := ⟨_, rfl⟩
      have hq1 : (n : Int).tdiv 8 = (q : Int) := by rw [Int.tdiv_eq_ediv_of_nonneg (by omega)]; omega
      have hq2 : (n : Int) / 8 = (q : Int) := by omega
      by_cases gq : q = 0
      rotate_left
      · have dq : ((q : Int) != 0) = true := by simp; omega
        have E := Lib.hid (show Y.right c 0 1 = false by
          rw [HE.out]
          by_cases g1 : 0 ≤ (n : Int)
          · rw [decide_eq_false (show ¬ (n : Int) ≤ 7 by omega), Bool.and_false]; rfl
          · rw [decide_eq_false g1]; rfl)
        clear HE g0 gq hq
        go_enter Tryd.func39, Tryd.ntmps39
        go_wp2_with (first | ((with_reducible refine wp_load_box_g rfl _ rfl ?_); refine ⟨_, _, rfl, hp2, ?_⟩) | ((with_reducible refine wp_load_box_g rfl _ rfl ?_); refine ⟨_, _, rfl, HW.out.1, ?_⟩) | (go_at_call 71; refine (HCas.out _).mono ?_; rintro e w' ⟨rfl, rfl⟩) | (go_at_call 72; refine (HFind.out _).mono ?_; rintro e w2 ⟨rfl, hb2⟩; have hp2 := HW.out.1.below hb2; have hbr2 := below_next HW.out.2 hb2; have c0' := hp2.cellK 0 (by decide) .u8 rfl) | (go_at_call 73; refine (HIs.out _).mono ?_; rintro e w3 ⟨rfl, hb3⟩; have hp3 := hp2.below hb3; have hbr3 := below_next hbr2 hb3; have c0'' := hp3.cellK 0 (by decide) .u8 rfl))
        go_ret
        exact ⟨ret_bool E.out.symm, hbr2⟩
      subst gq
      obtain ⟨J, hJ⟩ : ∃ J : Int, (n : Int) = J := ⟨_, rfl⟩
      have hm1 : (n : Int).tmod 8 = J := by rw [Int.tmod_eq_emod_of_nonneg (by omega)]; omega
      have hm2 : (n : Int) % 8 = J := by omega
      have HE2 := Lib.hid (show Y.right c 0 1 = ((y == 4) && ((c 0 == 1 || (J == 4 && (f : Int) == 0)) && decide ((f : Int) < J))) by
        rw [HE.out, show (n : Int) = J from hJ, decide_eq_true (show 0 ≤ J by omega), decide_eq_true (show J ≤ 7 by omega)]
        rfl)
      have hq1' : (n : Int).tdiv 8 = 0 := hq1
      have hq2' : (n : Int) / 8 = 0 := hq2
      clear HE g0 hq hq1 hq2 hJ
      cases hx : (y == 4)
      · have E := Lib.hid (show Y.right c 0 1 = false by rw [HE2.out, hx]; rfl)
        rw [hx] at HIs
        clear HE2
        go_enter Tryd.func39, Tryd.ntmps39
        go_wp2_with (first | ((with_reducible refine wp_load_box_g rfl _ rfl ?_); refine ⟨_, _, rfl, hp2, ?_⟩) | ((with_reducible refine wp_load_box_g rfl _ rfl ?_); refine ⟨_, _, rfl, HW.out.1, ?_⟩) | (go_at_call 71; refine (HCas.out _).mono ?_; rintro e w' ⟨rfl, rfl⟩) | (go_at_call 72; refine (HFind.out _).mono ?_; rintro e w2 ⟨rfl, hb2⟩; have hp2 := HW.out.1.below hb2; have hbr2 := below_next HW.out.2 hb2; have c0' := hp2.cellK 0 (by decide) .u8 rfl) | (go_at_call 73; refine (HIs.out _).mono ?_; rintro e w3 ⟨rfl, hb3⟩; have hp3 := hp2.below hb3; have hbr3 := below_next hbr2 hb3; have c0'' := hp3.cellK 0 (by decide) .u8 rfl))
        go_ret
        exact ⟨ret_bool E.out.symm, hbr3⟩
      · rw [hx] at HIs HE2
        cases f1 : (c 0 != 1) <;> cases f2 : (J != 4) <;> cases f3 : ((f : Int) != 0) <;> cases f4 : decide ((f : Int) < J)
        all_goals
          have E := Lib.hid (show Y.right c 0 1 = _ by rw [HE2.out, f4, eq_not_ne (c 0), eq_not_ne J, eq_not_ne (f : Int), f1, f2, f3])
          clear HE2
          go_enter Tryd.func39, Tryd.ntmps39
          go_wp2_with (first | ((with_reducible refine wp_load_box_g rfl _ rfl ?_); refine ⟨_, _, rfl, hp2, ?_⟩) | ((with_reducible refine wp_load_box_g rfl _ rfl ?_); refine ⟨_, _, rfl, HW.out.1, ?_⟩) | (go_at_call 71; refine (HCas.out _).mono ?_; rintro e w' ⟨rfl, rfl⟩) | (go_at_call 72; refine (HFind.out _).mono ?_; rintro e w2 ⟨rfl, hb2⟩; have hp2 := HW.out.1.below hb2; have hbr2 := below_next HW.out.2 hb2; have c0' := hp2.cellK 0 (by decide) .u8 rfl) | (go_at_call 73; refine (HIs.out _).mono ?_; rintro e w3 ⟨rfl, hb3⟩; have hp3 := hp2.below hb3; have hbr3 := below_next hbr2 hb3; have c0'' := hp3.cellK 0 (by decide) .u8 rfl))
          go_ret
          exact ⟨ret_bool E.out.symm, hbr3⟩

set_option maxRecDepth 100000 in
set_option maxHeartbeats 8000000 in
theorem d12right_10 (c : Nat → Int) (w : World) (hc : PosOk c) (hlo : -1 ≤ c 81) (h7 : c 81 ≤ 7) :
    Calls Tryd.prog 39 #[.agg (posC c), .int .u8 1, .int .i64 0] w fun e w' => e = .returned (.bool (Y.right c 1 0)) ∧ Below w.heap.size w w' := by
  have hp := PosAt.new w c
  have ci := hp.cellK 81 (by decide) .i8 rfl
  have c0 := hp.cellK 0 (by decide) .u8 rfl
  by_cases hf : c 81 = -1
  · rw [hf] at ci
    have E := Lib.hid (show Y.right c 1 0 = true by unfold Y.right; rw [show 79 + 2 * 1 + 0 = 81 from rfl, hf]; rfl)
    clear hf h7 hc hlo
    go_enter Tryd.func39, Tryd.ntmps39
    go_wp2
    go_ret
    exact ⟨ret_bool E.out.symm, (Below.refl _ _).alloc (Nat.le_refl _) _⟩
  obtain ⟨f, hff⟩ : ∃ f : Nat, c 81 = (f : Int) := ⟨(c 81).toNat, by omega⟩
  rw [hff] at ci h7
  have hsq : 56 + f < 64 := by omega
  obtain ⟨sq, hs⟩ : ∃ sq : Nat, 56 + f = sq := ⟨_, rfl⟩
  obtain ⟨k0, k1⟩ := find_bd c 1 (pos_bd hc)
  obtain ⟨K, hK⟩ : ∃ K, S.find c 1 6 = K := ⟨_, rfl⟩
  rw [hK] at k0 k1
  obtain ⟨y, hy⟩ : ∃ y, c (1 + sq) = y := ⟨_, rfl⟩
  obtain ⟨cas, hcas⟩ : ∃ cas, V.castles (c 0) = cas := ⟨_, rfl⟩
  have HFind : Hid (∀ w, Calls Tryd.prog 72 #[.agg (posC c), .int .u8 1, .int .u8 6] w fun e w' => e = .returned (.int .i64 K) ∧ Below w.heap.size w w') := Lib.hid (fun w => by
    rw [← hK, find_eq c 1 (pos_bd hc)]
    exact d8find_any c 1 6 w (pos_bd hc))
  have HCas : Hid (∀ w, Calls Tryd.prog 71 #[.int .u8 (c 0)] w fun e w' => e = .returned (.bool cas) ∧ w = w') := Lib.hid (fun w => by
    rw [← hcas]
    exact d12castles_any (c 0) w)
  have HIs : Hid (∀ w, Calls Tryd.prog 73 #[.agg (posC c), .int .i64 (sq : Int), .int .u8 1, .int .u8 4] w fun e w' => e = .returned (.bool (y == 12)) ∧ Below w.heap.size w w') := Lib.hid (fun w => by
    have := is12 c sq 1 4 (pos_bd hc) (by omega) (by omega) (by omega)
    rw [hy] at this
    rw [show (y == 12) = (y == 8 * 1 + 4) from rfl, ← this]
    exact d8is_any c sq 1 4 w (pos_bd hc) (by omega))
  have HE := Lib.hid (show Y.right c 1 0 = (cas && ((decide (0 ≤ K - 56) && decide (K - 56 ≤ 7)) && ((y == 12) && ((c 0 == 1 || (K - 56 == 4 && (f : Int) == 7)) && decide (K - 56 < (f : Int)))))) by
    have hfl : Y.file c 1 = K - 56 := by
      show S.find c 1 6 - 56 = _
      rw [hK]
    unfold Y.right Y.right' Y.dir
    rw [hfl, show 79 + 2 * 1 + 0 = 81 from rfl, hff, hcas, decide_eq_false (show ¬ (f : Int) < 0 by omega), Int.toNat_natCast, show 56 * 1 + f = sq by omega, hy]
    rfl)
  have hb0 : Below w.heap.size w (w.alloc (.cells (posC c) 31)) := (Below.refl _ _).alloc (Nat.le_refl _) _
  have HW := Lib.hid (And.intro hp hb0)
  have dfn : ((f : Int) == -1) = false := beq_eq_false_iff_ne.2 (by omega)
  have e1 : IntKind.i64.wrap (56 + (f : Int)) = (sq : Int) := by rw [IntKind.wrap_i64]; omega
  have e1w : wrap64 (56 + (f : Int)) = (sq : Int) := IntWalk.wrap64_in _ ⟨by omega, by omega⟩ |>.trans (by omega)
  clear hf hff hK hy hcas hb0 hc hlo hs hsq hp
  cases cas
  · have E := Lib.hid (HE.out.trans rfl)
    clear HE
    go_enter Tryd.func39, Tryd.ntmps39
    go_wp2_with (first | ((with_reducible refine wp_load_box_g rfl _ rfl ?_); refine ⟨_, _, rfl, hp2, ?_⟩) | ((with_reducible refine wp_load_box_g rfl _ rfl ?_); refine ⟨_, _, rfl, HW.out.1, ?_⟩) | (go_at_call 71; refine (HCas.out _).mono ?_; rintro e w' ⟨rfl, rfl⟩) | (go_at_call 72; refine (HFind.out _).mono ?_; rintro e w2 ⟨rfl, hb2⟩; have hp2 := HW.out.1.below hb2; have hbr2 := below_next HW.out.2 hb2; have c0' := hp2.cellK 0 (by decide) .u8 rfl) | (go_at_call 73; refine (HIs.out _).mono ?_; rintro e w3 ⟨rfl, hb3⟩; have hp3 := hp2.below hb3; have hbr3 := below_next hbr2 hb3; have c0'' := hp3.cellK 0 (by decide) .u8 rfl))
    go_ret
    exact ⟨ret_bool E.out.symm, HW.out.2⟩
  · by_cases g0 : K < 0
    · have d0 : decide (K < 0) = true := decide_eq_true g0
      have E := Lib.hid (show Y.right c 1 0 = false by rw [HE.out, decide_eq_false (show ¬ 0 ≤ K - 56 by omega)]; rfl)
      clear HE g0
      go_enter Tryd.func39, Tryd.ntmps39
      go_wp2_with (first | ((with_reducible refine wp_load_box_g rfl _ rfl ?_); refine ⟨_, _, rfl, hp2, ?_⟩) | ((with_reducible refine wp_load_box_g rfl _ rfl ?_); refine ⟨_, _, rfl, HW.out.1, ?_⟩) | (go_at_call 71; refine (HCas.out _).mono ?_; rintro e w' ⟨rfl, rfl⟩) | (go_at_call 72; refine (HFind.out _).mono ?_; rintro e w2 ⟨rfl, hb2⟩; have hp2 := HW.out.1.below hb2; have hbr2 := below_next HW.out.2 hb2; have c0' := hp2.cellK 0 (by decide) .u8 rfl) | (go_at_call 73; refine (HIs.out _).mono ?_; rintro e w3 ⟨rfl, hb3⟩; have hp3 := hp2.below hb3; have hbr3 := below_next hbr2 hb3; have c0'' := hp3.cellK 0 (by decide) .u8 rfl))
      go_ret
      exact ⟨ret_bool E.out.symm, hbr2⟩
    · have d0 : decide (K < 0) = false := decide_eq_false g0
      obtain ⟨n, rfl⟩ : ∃ n : Nat, K = (n : Int) := ⟨K.toNat, by omega⟩
      obtain ⟨q, hq⟩ : ∃ q : Nat, n / 8 = q := ⟨_, rfl⟩
      have hq1 : (n : Int).tdiv 8 = (q : Int) := by rw [Int.tdiv_eq_ediv_of_nonneg (by omega)]; omega
      have hq2 : (n : Int) / 8 = (q : Int) := by omega
      by_cases gq : q = 7
      rotate_left
      · have dq : ((q : Int) != 7) = true := by simp; omega
        have E := Lib.hid (show Y.right c 1 0 = false by
          rw [HE.out]
          by_cases g1 : 0 ≤ (n : Int) - 56
          · rw [decide_eq_false (show ¬ (n : Int) - 56 ≤ 7 by omega), Bool.and_false]; rfl
          · rw [decide_eq_false g1]; rfl)
        clear HE g0 gq hq
        go_enter Tryd.func39, Tryd.ntmps39
        go_wp2_with (first | ((with_reducible refine wp_load_box_g rfl _ rfl ?_); refine ⟨_, _, rfl, hp2, ?_⟩) | ((with_reducible refine wp_load_box_g rfl _ rfl ?_); refine ⟨_, _, rfl, HW.out.1, ?_⟩) | (go_at_call 71; refine (HCas.out _).mono ?_; rintro e w' ⟨rfl, rfl⟩) | (go_at_call 72; refine (HFind.out _).mono ?_; rintro e w2 ⟨rfl, hb2⟩; have hp2 := HW.out.1.below hb2; have hbr2 := below_next HW.out.2 hb2; have c0' := hp2.cellK 0 (by decide) .u8 rfl) | (go_at_call 73; refine (HIs.out _).mono ?_; rintro e w3 ⟨rfl, hb3⟩; have hp3 := hp2.below hb3; have hbr3 := below_next hbr2 hb3; have c0'' := hp3.cellK 0 (by decide) .u8 rfl))
        go_ret
        exact ⟨ret_bool E.out.symm, hbr2⟩
      subst gq
      obtain ⟨J, hJ⟩ : ∃ J : Int, (n : Int) - 56 = J := ⟨_, rfl⟩
      have hm1 : (n : Int).tmod 8 = J := by rw [Int.tmod_eq_emod_of_nonneg (by omega)]; omega
      have hm2 : (n : Int) % 8 = J := by omega
      have HE2 := Lib.hid (show Y.right c 1 0 = ((y == 12) && ((c 0 == 1 || (J == 4 && (f : Int) == 7)) && decide (J < (f : Int)))) by
        rw [HE.out, hJ, decide_eq_true (show 0 ≤ J by omega), decide_eq_true (show J ≤ 7 by omega)]
        rfl)
      have hq1' : (n : Int).tdiv 8 = 7 := hq1
      have hq2' : (n : Int) / 8 = 7 := hq2
      clear HE g0 hq hq1 hq2 hJ
      cases hx : (y == 12)
      · have E := Lib.hid (show Y.right c 1 0 = false by rw [HE2.out, hx]; rfl)
        rw [hx] at HIs
        clear HE2
        go_enter Tryd.func39, Tryd.ntmps39
        go_wp2_with (first | ((with_reducible refine wp_load_box_g rfl _ rfl ?_); refine ⟨_, _, rfl, hp2, ?_⟩) | ((with_reducible refine wp_load_box_g rfl _ rfl ?_); refine ⟨_, _, rfl, HW.out.1, ?_⟩) | (go_at_call 71; refine (HCas.out _).mono ?_; rintro e w' ⟨rfl, rfl⟩) | (go_at_call 72; refine (HFind.out _).mono ?_; rintro e w2 ⟨rfl, hb2⟩; have hp2 := HW.out.1.below hb2; have hbr2 := below_next HW.out.2 hb2; have c0' := hp2.cellK 0 (by decide) .u8 rfl) | (go_at_call 73; refine (HIs.out _).mono ?_; rintro e w3 ⟨rfl, hb3⟩; have hp3 := hp2.below hb3; have hbr3 := below_next hbr2 hb3; have c0'' := hp3.cellK 0 (by decide) .u8 rfl))
        go_ret
        exact ⟨ret_bool E.out.symm, hbr3⟩
      · rw [hx] at HIs HE2
        cases f1 : (c 0 != 1) <;> cases f2 : (J != 4) <;> cases f3 : ((f : Int) != 7) <;> cases f4 : decide (J < (f : Int))
        all_goals
          have E := Lib.hid (show Y.right c 1 0 = _ by rw [HE2.out, f4, eq_not_ne (c 0), eq_not_ne J, eq_not_ne (f : Int), f1, f2, f3])
          clear HE2
          go_enter Tryd.func39, Tryd.ntmps39
          go_wp2_with (first | ((with_reducible refine wp_load_box_g rfl _ rfl ?_); refine ⟨_, _, rfl, hp2, ?_⟩) | ((with_reducible refine wp_load_box_g rfl _ rfl ?_); refine ⟨_, _, rfl, HW.out.1, ?_⟩) | (go_at_call 71; refine (HCas.out _).mono ?_; rintro e w' ⟨rfl, rfl⟩) | (go_at_call 72; refine (HFind.out _).mono ?_; rintro e w2 ⟨rfl, hb2⟩; have hp2 := HW.out.1.below hb2; have hbr2 := below_next HW.out.2 hb2; have c0' := hp2.cellK 0 (by decide) .u8 rfl) | (go_at_call 73; refine (HIs.out _).mono ?_; rintro e w3 ⟨rfl, hb3⟩; have hp3 := hp2.below hb3; have hbr3 := below_next hbr2 hb3; have c0'' := hp3.cellK 0 (by decide) .u8 rfl))
          go_ret
          exact ⟨ret_bool E.out.symm, hbr3⟩

set_option maxRecDepth 100000 in
set_option maxHeartbeats 8000000 in
theorem d12right_11 (c : Nat → Int) (w : World) (hc : PosOk c) (hlo : -1 ≤ c 82) (h7 : c 82 ≤ 7) :
    Calls Tryd.prog 39 #[.agg (posC c), .int .u8 1, .int .i64 1] w fun e w' => e = .returned (.bool (Y.right c 1 1)) ∧ Below w.heap.size w w' := by
  have hp := PosAt.new w c
  have ci := hp.cellK 82 (by decide) .i8 rfl
  have c0 := hp.cellK 0 (by decide) .u8 rfl
  by_cases hf : c 82 = -1
  · rw [hf] at ci
    have E := Lib.hid (show Y.right c 1 1 = true by unfold Y.right; rw [show 79 + 2 * 1 + 1 = 82 from rfl, hf]; rfl)
    clear hf h7 hc hlo
    go_enter Tryd.func39, Tryd.ntmps39
    go_wp2
    go_ret
    exact ⟨ret_bool E.out.symm, (Below.refl _ _).alloc (Nat.le_refl _) _⟩
  obtain ⟨f, hff⟩ : ∃ f : Nat, c 82 = (f : Int) := ⟨(c 82).toNat, by omega⟩
  rw [hff] at ci h7
  have hsq : 56 + f < 64 := by omega
  obtain ⟨sq, hs⟩ : ∃ sq : Nat, 56 + f = sq := ⟨_, rfl⟩
  obtain ⟨k0, k1⟩ := find_bd c 1 (pos_bd hc)
  obtain ⟨K, hK⟩ : ∃ K, S.find c 1 6 = K := ⟨_, rfl⟩
  rw [hK] at k0 k1
  obtain ⟨y, hy⟩ : ∃ y, c (1 + sq) = y := ⟨_, rfl⟩
  obtain ⟨cas, hcas⟩ : ∃ cas, V.castles (c 0) = cas := ⟨_, rfl⟩
  have HFind : Hid (∀ w, Calls Tryd.prog 72 #[.agg (posC c), .int .u8 1, .int .u8 6] w fun e w' => e = .returned (.int .i64 K) ∧ Below w.heap.size w w') := Lib.hid (fun w => by
    rw [← hK, find_eq c 1 (pos_bd hc)]
    exact d8find_any c 1 6 w (pos_bd hc))
  have HCas : Hid (∀ w, Calls Tryd.prog 71 #[.int .u8 (c 0)] w fun e w' => e = .returned (.bool cas) ∧ w = w') := Lib.hid (fun w => by
    rw [← hcas]
    exact d12castles_any (c 0) w)
  have HIs : Hid (∀ w, Calls Tryd.prog 73 #[.agg (posC c), .int .i64 (sq : Int), .int .u8 1, .int .u8 4] w fun e w' => e = .returned (.bool (y == 12)) ∧ Below w.heap.size w w') := Lib.hid (fun w => by
    have := is12 c sq 1 4 (pos_bd hc) (by omega) (by omega) (by omega)
    rw [hy] at this
    rw [show (y == 12) = (y == 8 * 1 + 4) from rfl, ← this]
    exact d8is_any c sq 1 4 w (pos_bd hc) (by omega))
  have HE := Lib.hid (show Y.right c 1 1 = (cas && ((decide (0 ≤ K - 56) && decide (K - 56 ≤ 7)) && ((y == 12) && ((c 0 == 1 || (K - 56 == 4 && (f : Int) == 0)) && decide ((f : Int) < K - 56))))) by
    have hfl : Y.file c 1 = K - 56 := by
      show S.find c 1 6 - 56 = _
      rw [hK]
    unfold Y.right Y.right' Y.dir
    rw [hfl, show 79 + 2 * 1 + 1 = 82 from rfl, hff, hcas, decide_eq_false (show ¬ (f : Int) < 0 by omega), Int.toNat_natCast, show 56 * 1 + f = sq by omega, hy]
    rfl)
  have hb0 : Below w.heap.size w (w.alloc (.cells (posC c) 31)) := (Below.refl _ _).alloc (Nat.le_refl _) _
  have HW := Lib.hid (And.intro hp hb0)
  have dfn : ((f : Int) == -1) = false := beq_eq_false_iff_ne.2 (by omega)
  have e1 : IntKind.i64.wrap (56 + (f : Int)) = (sq : Int) := by rw [IntKind.wrap_i64]; omega
  have e1w : wrap64 (56 + (f : Int)) = (sq : Int) := IntWalk.wrap64_in _ ⟨by omega, by omega⟩ |>.trans (by omega)
  clear hf hff hK hy hcas hb0 hc hlo hs hsq hp
  cases cas
  · have E := Lib.hid (HE.out.trans rfl)
    clear HE
    go_enter Tryd.func39, Tryd.ntmps39
    go_wp2_with (first | ((with_reducible refine wp_load_box_g rfl _ rfl ?_); refine ⟨_, _, rfl, hp2, ?_⟩) | ((with_reducible refine wp_load_box_g rfl _ rfl ?_); refine ⟨_, _, rfl, HW.out.1, ?_⟩) | (go_at_call 71; refine (HCas.out _).mono ?_; rintro e w' ⟨rfl, rfl⟩) | (go_at_call 72; refine (HFind.out _).mono ?_; rintro e w2 ⟨rfl, hb2⟩; have hp2 := HW.out.1.below hb2; have hbr2 := below_next HW.out.2 hb2; have c0' := hp2.cellK 0 (by decide) .u8 rfl) | (go_at_call 73; refine (HIs.out _).mono ?_; rintro e w3 ⟨rfl, hb3⟩; have hp3 := hp2.below hb3; have hbr3 := below_next hbr2 hb3; have c0'' := hp3.cellK 0 (by decide) .u8 rfl))
    go_ret
    exact ⟨ret_bool E.out.symm, HW.out.2⟩
  · by_cases g0 : K < 0
    · have d0 : decide (K < 0) = true := decide_eq_true g0
      have E := Lib.hid (show Y.right c 1 1 = false by rw [HE.out, decide_eq_false (show ¬ 0 ≤ K - 56 by omega)]; rfl)
      clear HE g0
      go_enter Tryd.func39, Tryd.ntmps39
      go_wp2_with (first | ((with_reducible refine wp_load_box_g rfl _ rfl ?_); refine ⟨_, _, rfl, hp2, ?_⟩) | ((with_reducible refine wp_load_box_g rfl _ rfl ?_); refine ⟨_, _, rfl, HW.out.1, ?_⟩) | (go_at_call 71; refine (HCas.out _).mono ?_; rintro e w' ⟨rfl, rfl⟩) | (go_at_call 72; refine (HFind.out _).mono ?_; rintro e w2 ⟨rfl, hb2⟩; have hp2 := HW.out.1.below hb2; have hbr2 := below_next HW.out.2 hb2; have c0' := hp2.cellK 0 (by decide) .u8 rfl) | (go_at_call 73; refine (HIs.out _).mono ?_; rintro e w3 ⟨rfl, hb3⟩; have hp3 := hp2.below hb3; have hbr3 := below_next hbr2 hb3; have c0'' := hp3.cellK 0 (by decide) .u8 rfl))
      go_ret
      exact ⟨ret_bool E.out.symm, hbr2⟩
    · have d0 : decide (K < 0) = false := decide_eq_false g0
      obtain ⟨n, rfl⟩ : ∃ n : Nat, K = (n : Int) := ⟨K.toNat, by omega⟩
      obtain ⟨q, hq⟩ : ∃ q : Nat, n / 8 = q := ⟨_, rfl⟩
      have hq1 : (n : Int).tdiv 8 = (q : Int) := by rw [Int.tdiv_eq_ediv_of_nonneg (by omega)]; omega
      have hq2 : (n : Int) / 8 = (q : Int) := by omega
      by_cases gq : q = 7
      rotate_left
      · have dq : ((q : Int) != 7) = true := by simp; omega
        have E := Lib.hid (show Y.right c 1 1 = false by
          rw [HE.out]
          by_cases g1 : 0 ≤ (n : Int) - 56
          · rw [decide_eq_false (show ¬ (n : Int) - 56 ≤ 7 by omega), Bool.and_false]; rfl
          · rw [decide_eq_false g1]; rfl)
        clear HE g0 gq hq
        go_enter Tryd.func39, Tryd.ntmps39
        go_wp2_with (first | ((with_reducible refine wp_load_box_g rfl _ rfl ?_); refine ⟨_, _, rfl, hp2, ?_⟩) | ((with_reducible refine wp_load_box_g rfl _ rfl ?_); refine ⟨_, _, rfl, HW.out.1, ?_⟩) | (go_at_call 71; refine (HCas.out _).mono ?_; rintro e w' ⟨rfl, rfl⟩) | (go_at_call 72; refine (HFind.out _).mono ?_; rintro e w2 ⟨rfl, hb2⟩; have hp2 := HW.out.1.below hb2; have hbr2 := below_next HW.out.2 hb2; have c0' := hp2.cellK 0 (by decide) .u8 rfl) | (go_at_call 73; refine (HIs.out _).mono ?_; rintro e w3 ⟨rfl, hb3⟩; have hp3 := hp2.below hb3; have hbr3 := below_next hbr2 hb3; have c0'' := hp3.cellK 0 (by decide) .u8 rfl))
        go_ret
        exact ⟨ret_bool E.out.symm, hbr2⟩
      subst gq
      obtain ⟨J, hJ⟩ : ∃ J : Int, (n : Int) - 56 = J := ⟨_, rfl⟩
      have hm1 : (n : Int).tmod 8 = J := by rw [Int.tmod_eq_emod_of_nonneg (by omega)]; omega
      have hm2 : (n : Int) % 8 = J := by omega
      have HE2 := Lib.hid (show Y.right c 1 1 = ((y == 12) && ((c 0 == 1 || (J == 4 && (f : Int) == 0)) && decide ((f : Int) < J))) by
        rw [HE.out, hJ, decide_eq_true (show 0 ≤ J by omega), decide_eq_true (show J ≤ 7 by omega)]
        rfl)
      have hq1' : (n : Int).tdiv 8 = 7 := hq1
      have hq2' : (n : Int) / 8 = 7 := hq2
      clear HE g0 hq hq1 hq2 hJ
      cases hx : (y == 12)
      · have E := Lib.hid (show Y.right c 1 1 = false by rw [HE2.out, hx]; rfl)
        rw [hx] at HIs
        clear HE2
        go_enter Tryd.func39, Tryd.ntmps39
        go_wp2_with (first | ((with_reducible refine wp_load_box_g rfl _ rfl ?_); refine ⟨_, _, rfl, hp2, ?_⟩) | ((with_reducible refine wp_load_box_g rfl _ rfl ?_); refine ⟨_, _, rfl, HW.out.1, ?_⟩) | (go_at_call 71; refine (HCas.out _).mono ?_; rintro e w' ⟨rfl, rfl⟩) | (go_at_call 72; refine (HFind.out _).mono ?_; rintro e w2 ⟨rfl, hb2⟩; have hp2 := HW.out.1.below hb2; have hbr2 := below_next HW.out.2 hb2; have c0' := hp2.cellK 0 (by decide) .u8 rfl) | (go_at_call 73; refine (HIs.out _).mono ?_; rintro e w3 ⟨rfl, hb3⟩; have hp3 := hp2.below hb3; have hbr3 := below_next hbr2 hb3; have c0'' := hp3.cellK 0 (by decide) .u8 rfl))
        go_ret
        exact ⟨ret_bool E.out.symm, hbr3⟩
      · rw [hx] at HIs HE2
        cases f1 : (c 0 != 1) <;> cases f2 : (J != 4) <;> cases f3 : ((f : Int) != 0) <;> cases f4 : decide ((f : Int) < J)
        all_goals
          have E := Lib.hid (show Y.right c 1 1 = _ by rw [HE2.out, f4, eq_not_ne (c 0), eq_not_ne J, eq_not_ne (f : Int), f1, f2, f3])
          clear HE2
          go_enter Tryd.func39, Tryd.ntmps39
          go_wp2_with (first | ((with_reducible refine wp_load_box_g rfl _ rfl ?_); refine ⟨_, _, rfl, hp2, ?_⟩) | ((with_reducible refine wp_load_box_g rfl _ rfl ?_); refine ⟨_, _, rfl, HW.out.1, ?_⟩) | (go_at_call 71; refine (HCas.out _).mono ?_; rintro e w' ⟨rfl, rfl⟩) | (go_at_call 72; refine (HFind.out _).mono ?_; rintro e w2 ⟨rfl, hb2⟩; have hp2 := HW.out.1.below hb2; have hbr2 := below_next HW.out.2 hb2; have c0' := hp2.cellK 0 (by decide) .u8 rfl) | (go_at_call 73; refine (HIs.out _).mono ?_; rintro e w3 ⟨rfl, hb3⟩; have hp3 := hp2.below hb3; have hbr3 := below_next hbr2 hb3; have c0'' := hp3.cellK 0 (by decide) .u8 rfl))
          go_ret
          exact ⟨ret_bool E.out.symm, hbr3⟩

theorem d12right_any (c : Nat → Int) (t k : Nat) (w : World) (hc : PosOk c) (ht : t < 2) (hk : k < 2) (hlo : -1 ≤ c (79 + 2 * t + k)) (h7 : c (79 + 2 * t + k) ≤ 7) :
    Calls Tryd.prog 39 #[.agg (posC c), .int .u8 (t : Int), .int .i64 (k : Int)] w fun e w' => e = .returned (.bool (Y.right c t k)) ∧ Below w.heap.size w w' := by
  rcases (show (t = 0 ∧ k = 0) ∨ (t = 0 ∧ k = 1) ∨ (t = 1 ∧ k = 0) ∨ (t = 1 ∧ k = 1) by omega) with ⟨rfl, rfl⟩ | ⟨rfl, rfl⟩ | ⟨rfl, rfl⟩ | ⟨rfl, rfl⟩
  · exact d12right_00 c w hc hlo h7
  · exact d12right_01 c w hc hlo h7
  · exact d12right_10 c w hc hlo h7
  · exact d12right_11 c w hc hlo h7
end Go.Proofs.YtlphjjekamhnlaaDoor
