/- The program's package valid: right, rooks. -/
import Derived.Test.YtlphjjekamhnlaaDoorVpB
namespace Go.Proofs.YtlphjjekamhnlaaDoor
open Go.RowKit Go.Sort
attribute [local go_sem] Oper.semAt_some

theorem eq_not_ne (x n : Int) : (x == n) = !(x != n) := by unfold bne; rw [Bool.not_not]
theorem find_bd (c : Nat → Int) (t : Int) (hc : BdOk c) : -1 ≤ S.find c t 6 ∧ S.find c t 6 < 64 := by
  rw [find_eq c t hc]
  unfold D.find
  rcases dfirst_spec (fun s => D.is c s t 6) 64 0 with ⟨h, _⟩ | ⟨j, _, h2, h3, _⟩ <;> omega

set_option maxRecDepth 100000 in
set_option maxHeartbeats 8000000 in
theorem vright_00 (c : Nat → Int) (w : World) (hc : PosOk c) (hT : Tb w) (h7 : c 79 ≤ 7) :
    Calls Tryd.prog 43 #[.agg (posC c), .int .u8 0, .int .i64 0] w fun e w' => e = .returned (.bool (Y.right c 0 0)) ∧ Below w.heap.size w w' := by
  have hp := PosIn.new w 70 c
  have ci := hp.cell 79 (by decide) .i8 rfl
  obtain ⟨i0, i1⟩ := pos_i8z hc (i := 79) (by decide) rfl
  by_cases hf : c 79 < 0
  · have d : decide (c 79 < 0) = true := decide_eq_true hf
    have E := Lib.hid (show Y.right c 0 0 = true by unfold Y.right; rw [show 79 + 2 * 0 + 0 = 79 from rfl, d]; rfl)
    clear h7 hc
    go_enter Tryd.func43, Tryd.ntmps43
    go_wp2
    go_ret
    exact ⟨ret_bool E.out.symm, (Below.refl _ _).alloc (Nat.le_refl _) _⟩
  obtain ⟨f, hff⟩ : ∃ f : Nat, c 79 = (f : Int) := ⟨(c 79).toNat, by omega⟩
  rw [hff] at ci h7
  clear i0 i1
  have hsq : 0 + f < 64 := by omega
  have hs : 0 + f = f := by omega
  obtain ⟨k0, k1⟩ := find_bd c 0 (pos_bd hc)
  obtain ⟨K, hK⟩ : ∃ K, S.find c 0 6 = K := ⟨_, rfl⟩
  rw [hK] at k0 k1
  obtain ⟨y, hy⟩ : ∃ y, c (1 + f) = y := ⟨_, rfl⟩
  obtain ⟨x0, x1⟩ := pos_bd hc f (by omega)
  rw [hy] at x0 x1
  obtain ⟨v0, _⟩ := pos_u8 hc (i := 0) (by decide) rfl
  obtain ⟨v, hvv⟩ : ∃ v : Nat, c 0 = (v : Int) := ⟨(c 0).toNat, by omega⟩
  obtain ⟨cas, hcas⟩ : ∃ cas, V.castles (c 0) = cas := ⟨_, rfl⟩
  have HFind : Hid (∀ w, Tb w → Calls Tryd.prog 75 #[.agg (posC c), .int .u8 0, .int .u8 6] w fun e w' => e = .returned (.int .i64 K) ∧ Below w.heap.size w w') := Lib.hid (fun w h => by
    rw [← hK]
    exact find_any c 0 6 w (pos_bd hc) h)
  have HCas : Hid (∀ w, Calls Tryd.prog 76 #[.int .u8 (c 0)] w fun e w' => e = .returned (.bool cas) ∧ Below w.heap.size w w') := Lib.hid (fun w => by
    rw [← hcas, hvv]
    exact rcastles_any v w)
  have HMk : Hid (∀ w, Calls Tryd.prog 77 #[.int .u8 0, .int .u8 4] w fun e w' => e = .returned (.int .u8 4) ∧ w = w') := Lib.hid (fun w => make_any 0 4 w (by decide) (by decide) (by decide) (by decide))
  have HE := Lib.hid (show Y.right c 0 0 = (cas && ((decide (0 ≤ K) && decide (K ≤ 7)) && ((y == 4) && ((c 0 == 1 || (K == 4 && (f : Int) == 7)) && decide (K < (f : Int)))))) by
    have hfl : Y.file c 0 = K := by
      show S.find c 0 6 - 0 = _
      rw [hK]; omega
    unfold Y.right Y.right' Y.dir
    rw [hfl, show 79 + 2 * 0 + 0 = 79 from rfl, hff, hcas, decide_eq_false (show ¬ (f : Int) < 0 by omega), Int.toNat_natCast, show 56 * 0 + f = f by omega, hy]
    rfl)
  have hb0 : Below w.heap.size w (w.alloc (.cells (posC c) 70)) := (Below.refl _ _).alloc (Nat.le_refl _) _
  have HT := Lib.hid (tb_below hT hb0)
  have HW := Lib.hid (And.intro hp hb0)
  have HY := Lib.hid hy
  have HS := Lib.hid hs
  have dfn : decide ((f : Int) < 0) = false := decide_eq_false (by omega)
  clear hf hff hK hy hvv hcas hb0 hT hc v0
  go_enter Tryd.func43, Tryd.ntmps43
  go_wp2_with (first
    | ((with_reducible refine wp_load_posIn rfl _ rfl ?_); refine ⟨_, _, c, rfl, HW.out.1, ?_⟩)
    | (go_at_call 75; refine (HFind.out _ HT.out).mono ?_; rintro e w2 ⟨rfl, hb2⟩))
  have hp2 := HW.out.1.below hb2
  have HB2 := Lib.hid (below_next HW.out.2 hb2)
  have HP2 := Lib.hid hp2
  have hlt2 : w.heap.size < w2.heap.size := hp2.lt
  have c0 := hp2.cell 0 (by decide) .u8 rfl
  have cy := hp2.bd f (by have := HS.out; omega)
  rw [HY.out] at cy
  have e1 : IntKind.i64.wrap (0 + (f : Int)) = (f : Int) := by have := HS.out; rw [IntKind.wrap_i64]; omega
  have e1' : IntKind.i64.wrap (f : Int) = (f : Int) := by rw [IntKind.wrap_i64]; omega
  have e2 : 0 ≤ (f : Int) ∧ (f : Int) < 64 := by have := HS.out; omega
  clear hp hp2 ci hb2 hs dfn
  cases cas
  · have E := Lib.hid (HE.out.trans rfl)
    clear HE
    refine region_below (by kernel_rfl) (by kernel_rfl) ?_
    try simp only [Act.put]
    repeat (first
      | go_big_quiet_step (first
        | (go_at_call 76; exact quiet_below (HCas.out _))
        | (go_at_call 77; exact quiet_below_same (HMk.out _))))
    refine wpQuiet_nil ?_
    intro w3 hb3
    have hp3 := HP2.out.below hb3
    have hbr := below_next HB2.out hb3
    have c0' := hp3.cell 0 (by decide) .u8 rfl
    clear hb3 c0 cy e1 e1' e2 hlt2
    go_wp2
    go_ret
    exact ⟨ret_bool E.out.symm, hbr⟩
  · by_cases g1 : K < 0
    · have d1 : decide (K < 0) = true := decide_eq_true g1
      have E := Lib.hid (show Y.right c 0 0 = false by rw [HE.out, decide_eq_false (show ¬ 0 ≤ K by omega)]; rfl)
      clear HE g1
      refine region_below (by kernel_rfl) (by kernel_rfl) ?_
      try simp only [Act.put]
      repeat (first
        | go_big_quiet_step (first
          | (go_at_call 76; exact quiet_below (HCas.out _))
          | (go_at_call 77; exact quiet_below_same (HMk.out _))))
      refine wpQuiet_nil ?_
      intro w3 hb3
      have hp3 := HP2.out.below hb3
      have hbr := below_next HB2.out hb3
      have c0' := hp3.cell 0 (by decide) .u8 rfl
      clear hb3 c0 cy e1 e1' e2 hlt2
      go_wp2
      go_ret
      exact ⟨ret_bool E.out.symm, hbr⟩
    · have d1 : decide (K < 0) = false := decide_eq_false g1
      by_cases g2 : 7 < K
      · have d2 : decide (7 < K) = true := decide_eq_true g2
        have E := Lib.hid (show Y.right c 0 0 = false by rw [HE.out, decide_eq_false (show ¬ K ≤ 7 by omega), Bool.and_false]; rfl)
        clear HE g1 g2
        refine region_below (by kernel_rfl) (by kernel_rfl) ?_
        try simp only [Act.put]
        repeat (first
          | go_big_quiet_step (first
            | (go_at_call 76; exact quiet_below (HCas.out _))
            | (go_at_call 77; exact quiet_below_same (HMk.out _))))
        refine wpQuiet_nil ?_
        intro w3 hb3
        have hp3 := HP2.out.below hb3
        have hbr := below_next HB2.out hb3
        have c0' := hp3.cell 0 (by decide) .u8 rfl
        clear hb3 c0 cy e1 e1' e2 hlt2
        go_wp2
        go_ret
        exact ⟨ret_bool E.out.symm, hbr⟩
      · have d2 : decide (7 < K) = false := decide_eq_false g2
        cases hx : (y != 4)
        rotate_left
        · have E := Lib.hid (show Y.right c 0 0 = false by rw [HE.out, show (y == 4) = false by simpa using hx, Bool.false_and, Bool.and_false, Bool.and_false])
          clear HE g1 g2
          refine region_below (by kernel_rfl) (by kernel_rfl) ?_
          try simp only [Act.put]
          repeat (first
            | go_big_quiet_step (first
              | (go_at_call 76; exact quiet_below (HCas.out _))
              | (go_at_call 77; exact quiet_below_same (HMk.out _))))
          refine wpQuiet_nil ?_
          intro w3 hb3
          have hp3 := HP2.out.below hb3
          have hbr := below_next HB2.out hb3
          have c0' := hp3.cell 0 (by decide) .u8 rfl
          clear hb3 c0 cy e1 e1' e2 hlt2
          go_wp2
          go_ret
          exact ⟨ret_bool E.out.symm, hbr⟩
        · have HE2 := Lib.hid (show Y.right c 0 0 = ((c 0 == 1 || (K == 4 && (f : Int) == 7)) && decide (K < (f : Int))) by rw [HE.out, decide_eq_true (show 0 ≤ K by omega), decide_eq_true (show K ≤ 7 by omega), show (y == 4) = true by simpa using hx]; rfl)
          have w1 : IntKind.i64.wrap (K - 0) = K := by rw [IntKind.wrap_i64]; omega
          cases f1 : (c 0 != 1) <;> cases f2 : (K != 4) <;> cases f3 : ((f : Int) != 7) <;> cases f4 : decide (K < (f : Int))
          all_goals
            have E := Lib.hid (show Y.right c 0 0 = _ by rw [HE2.out, f4, eq_not_ne (c 0), eq_not_ne K, eq_not_ne (f : Int), f1, f2, f3])
            clear HE HE2 g1 g2
            refine region_below (by kernel_rfl) (by kernel_rfl) ?_
            try simp only [Act.put]
            repeat (first
              | go_big_quiet_step (first
                | (go_at_call 76; exact quiet_below (HCas.out _))
                | (go_at_call 77; exact quiet_below_same (HMk.out _))))
            refine wpQuiet_nil ?_
            intro w3 hb3
            have hp3 := HP2.out.below hb3
            have hbr := below_next HB2.out hb3
            have c0' := hp3.cell 0 (by decide) .u8 rfl
            clear hb3 c0 cy e1 e1' e2 hlt2
            go_wp2
            go_ret
            exact ⟨ret_bool E.out.symm, hbr⟩

set_option maxRecDepth 100000 in
set_option maxHeartbeats 8000000 in
theorem vright_01 (c : Nat → Int) (w : World) (hc : PosOk c) (hT : Tb w) (h7 : c 80 ≤ 7) :
    Calls Tryd.prog 43 #[.agg (posC c), .int .u8 0, .int .i64 1] w fun e w' => e = .returned (.bool (Y.right c 0 1)) ∧ Below w.heap.size w w' := by
  have hp := PosIn.new w 70 c
  have ci := hp.cell 80 (by decide) .i8 rfl
  obtain ⟨i0, i1⟩ := pos_i8z hc (i := 80) (by decide) rfl
  by_cases hf : c 80 < 0
  · have d : decide (c 80 < 0) = true := decide_eq_true hf
    have E := Lib.hid (show Y.right c 0 1 = true by unfold Y.right; rw [show 79 + 2 * 0 + 1 = 80 from rfl, d]; rfl)
    clear h7 hc
    go_enter Tryd.func43, Tryd.ntmps43
    go_wp2
    go_ret
    exact ⟨ret_bool E.out.symm, (Below.refl _ _).alloc (Nat.le_refl _) _⟩
  obtain ⟨f, hff⟩ : ∃ f : Nat, c 80 = (f : Int) := ⟨(c 80).toNat, by omega⟩
  rw [hff] at ci h7
  clear i0 i1
  have hsq : 0 + f < 64 := by omega
  have hs : 0 + f = f := by omega
  obtain ⟨k0, k1⟩ := find_bd c 0 (pos_bd hc)
  obtain ⟨K, hK⟩ : ∃ K, S.find c 0 6 = K := ⟨_, rfl⟩
  rw [hK] at k0 k1
  obtain ⟨y, hy⟩ : ∃ y, c (1 + f) = y := ⟨_, rfl⟩
  obtain ⟨x0, x1⟩ := pos_bd hc f (by omega)
  rw [hy] at x0 x1
  obtain ⟨v0, _⟩ := pos_u8 hc (i := 0) (by decide) rfl
  obtain ⟨v, hvv⟩ : ∃ v : Nat, c 0 = (v : Int) := ⟨(c 0).toNat, by omega⟩
  obtain ⟨cas, hcas⟩ : ∃ cas, V.castles (c 0) = cas := ⟨_, rfl⟩
  have HFind : Hid (∀ w, Tb w → Calls Tryd.prog 75 #[.agg (posC c), .int .u8 0, .int .u8 6] w fun e w' => e = .returned (.int .i64 K) ∧ Below w.heap.size w w') := Lib.hid (fun w h => by
    rw [← hK]
    exact find_any c 0 6 w (pos_bd hc) h)
  have HCas : Hid (∀ w, Calls Tryd.prog 76 #[.int .u8 (c 0)] w fun e w' => e = .returned (.bool cas) ∧ Below w.heap.size w w') := Lib.hid (fun w => by
    rw [← hcas, hvv]
    exact rcastles_any v w)
  have HMk : Hid (∀ w, Calls Tryd.prog 77 #[.int .u8 0, .int .u8 4] w fun e w' => e = .returned (.int .u8 4) ∧ w = w') := Lib.hid (fun w => make_any 0 4 w (by decide) (by decide) (by decide) (by decide))
  have HE := Lib.hid (show Y.right c 0 1 = (cas && ((decide (0 ≤ K) && decide (K ≤ 7)) && ((y == 4) && ((c 0 == 1 || (K == 4 && (f : Int) == 0)) && decide ((f : Int) < K))))) by
    have hfl : Y.file c 0 = K := by
      show S.find c 0 6 - 0 = _
      rw [hK]; omega
    unfold Y.right Y.right' Y.dir
    rw [hfl, show 79 + 2 * 0 + 1 = 80 from rfl, hff, hcas, decide_eq_false (show ¬ (f : Int) < 0 by omega), Int.toNat_natCast, show 56 * 0 + f = f by omega, hy]
    rfl)
  have hb0 : Below w.heap.size w (w.alloc (.cells (posC c) 70)) := (Below.refl _ _).alloc (Nat.le_refl _) _
  have HT := Lib.hid (tb_below hT hb0)
  have HW := Lib.hid (And.intro hp hb0)
  have HY := Lib.hid hy
  have HS := Lib.hid hs
  have dfn : decide ((f : Int) < 0) = false := decide_eq_false (by omega)
  clear hf hff hK hy hvv hcas hb0 hT hc v0
  go_enter Tryd.func43, Tryd.ntmps43
  go_wp2_with (first
    | ((with_reducible refine wp_load_posIn rfl _ rfl ?_); refine ⟨_, _, c, rfl, HW.out.1, ?_⟩)
    | (go_at_call 75; refine (HFind.out _ HT.out).mono ?_; rintro e w2 ⟨rfl, hb2⟩))
  have hp2 := HW.out.1.below hb2
  have HB2 := Lib.hid (below_next HW.out.2 hb2)
  have HP2 := Lib.hid hp2
  have hlt2 : w.heap.size < w2.heap.size := hp2.lt
  have c0 := hp2.cell 0 (by decide) .u8 rfl
  have cy := hp2.bd f (by have := HS.out; omega)
  rw [HY.out] at cy
  have e1 : IntKind.i64.wrap (0 + (f : Int)) = (f : Int) := by have := HS.out; rw [IntKind.wrap_i64]; omega
  have e1' : IntKind.i64.wrap (f : Int) = (f : Int) := by rw [IntKind.wrap_i64]; omega
  have e2 : 0 ≤ (f : Int) ∧ (f : Int) < 64 := by have := HS.out; omega
  clear hp hp2 ci hb2 hs dfn
  cases cas
  · have E := Lib.hid (HE.out.trans rfl)
    clear HE
    refine region_below (by kernel_rfl) (by kernel_rfl) ?_
    try simp only [Act.put]
    repeat (first
      | go_big_quiet_step (first
        | (go_at_call 76; exact quiet_below (HCas.out _))
        | (go_at_call 77; exact quiet_below_same (HMk.out _))))
    refine wpQuiet_nil ?_
    intro w3 hb3
    have hp3 := HP2.out.below hb3
    have hbr := below_next HB2.out hb3
    have c0' := hp3.cell 0 (by decide) .u8 rfl
    clear hb3 c0 cy e1 e1' e2 hlt2
    go_wp2
    go_ret
    exact ⟨ret_bool E.out.symm, hbr⟩
  · by_cases g1 : K < 0
    · have d1 : decide (K < 0) = true := decide_eq_true g1
      have E := Lib.hid (show Y.right c 0 1 = false by rw [HE.out, decide_eq_false (show ¬ 0 ≤ K by omega)]; rfl)
      clear HE g1
      refine region_below (by kernel_rfl) (by kernel_rfl) ?_
      try simp only [Act.put]
      repeat (first
        | go_big_quiet_step (first
          | (go_at_call 76; exact quiet_below (HCas.out _))
          | (go_at_call 77; exact quiet_below_same (HMk.out _))))
      refine wpQuiet_nil ?_
      intro w3 hb3
      have hp3 := HP2.out.below hb3
      have hbr := below_next HB2.out hb3
      have c0' := hp3.cell 0 (by decide) .u8 rfl
      clear hb3 c0 cy e1 e1' e2 hlt2
      go_wp2
      go_ret
      exact ⟨ret_bool E.out.symm, hbr⟩
    · have d1 : decide (K < 0) = false := decide_eq_false g1
      by_cases g2 : 7 < K
      · have d2 : decide (7 < K) = true := decide_eq_true g2
        have E := Lib.hid (show Y.right c 0 1 = false by rw [HE.out, decide_eq_false (show ¬ K ≤ 7 by omega), Bool.and_false]; rfl)
        clear HE g1 g2
        refine region_below (by kernel_rfl) (by kernel_rfl) ?_
        try simp only [Act.put]
        repeat (first
          | go_big_quiet_step (first
            | (go_at_call 76; exact quiet_below (HCas.out _))
            | (go_at_call 77; exact quiet_below_same (HMk.out _))))
        refine wpQuiet_nil ?_
        intro w3 hb3
        have hp3 := HP2.out.below hb3
        have hbr := below_next HB2.out hb3
        have c0' := hp3.cell 0 (by decide) .u8 rfl
        clear hb3 c0 cy e1 e1' e2 hlt2
        go_wp2
        go_ret
        exact ⟨ret_bool E.out.symm, hbr⟩
      · have d2 : decide (7 < K) = false := decide_eq_false g2
        cases hx : (y != 4)
        rotate_left
        · have E := Lib.hid (show Y.right c 0 1 = false by rw [HE.out, show (y == 4) = false by simpa using hx, Bool.false_and, Bool.and_false, Bool.and_false])
          clear HE g1 g2
          refine region_below (by kernel_rfl) (by kernel_rfl) ?_
          try simp only [Act.put]
          repeat (first
            | go_big_quiet_step (first
              | (go_at_call 76; exact quiet_below (HCas.out _))
              | (go_at_call 77; exact quiet_below_same (HMk.out _))))
          refine wpQuiet_nil ?_
          intro w3 hb3
          have hp3 := HP2.out.below hb3
          have hbr := below_next HB2.out hb3
          have c0' := hp3.cell 0 (by decide) .u8 rfl
          clear hb3 c0 cy e1 e1' e2 hlt2
          go_wp2
          go_ret
          exact ⟨ret_bool E.out.symm, hbr⟩
        · have HE2 := Lib.hid (show Y.right c 0 1 = ((c 0 == 1 || (K == 4 && (f : Int) == 0)) && decide ((f : Int) < K)) by rw [HE.out, decide_eq_true (show 0 ≤ K by omega), decide_eq_true (show K ≤ 7 by omega), show (y == 4) = true by simpa using hx]; rfl)
          have w1 : IntKind.i64.wrap (K - 0) = K := by rw [IntKind.wrap_i64]; omega
          cases f1 : (c 0 != 1) <;> cases f2 : (K != 4) <;> cases f3 : ((f : Int) != 0) <;> cases f4 : decide ((f : Int) < K)
          all_goals
            have E := Lib.hid (show Y.right c 0 1 = _ by rw [HE2.out, f4, eq_not_ne (c 0), eq_not_ne K, eq_not_ne (f : Int), f1, f2, f3])
            clear HE HE2 g1 g2
            refine region_below (by kernel_rfl) (by kernel_rfl) ?_
            try simp only [Act.put]
            repeat (first
              | go_big_quiet_step (first
                | (go_at_call 76; exact quiet_below (HCas.out _))
                | (go_at_call 77; exact quiet_below_same (HMk.out _))))
            refine wpQuiet_nil ?_
            intro w3 hb3
            have hp3 := HP2.out.below hb3
            have hbr := below_next HB2.out hb3
            have c0' := hp3.cell 0 (by decide) .u8 rfl
            clear hb3 c0 cy e1 e1' e2 hlt2
            go_wp2
            go_ret
            exact ⟨ret_bool E.out.symm, hbr⟩

set_option maxRecDepth 100000 in
set_option maxHeartbeats 8000000 in
theorem vright_10 (c : Nat → Int) (w : World) (hc : PosOk c) (hT : Tb w) (h7 : c 81 ≤ 7) :
    Calls Tryd.prog 43 #[.agg (posC c), .int .u8 1, .int .i64 0] w fun e w' => e = .returned (.bool (Y.right c 1 0)) ∧ Below w.heap.size w w' := by
  have hp := PosIn.new w 70 c
  have ci := hp.cell 81 (by decide) .i8 rfl
  obtain ⟨i0, i1⟩ := pos_i8z hc (i := 81) (by decide) rfl
  by_cases hf : c 81 < 0
  · have d : decide (c 81 < 0) = true := decide_eq_true hf
    have E := Lib.hid (show Y.right c 1 0 = true by unfold Y.right; rw [show 79 + 2 * 1 + 0 = 81 from rfl, d]; rfl)
    clear h7 hc
    go_enter Tryd.func43, Tryd.ntmps43
    go_wp2
    go_ret
    exact ⟨ret_bool E.out.symm, (Below.refl _ _).alloc (Nat.le_refl _) _⟩
  obtain ⟨f, hff⟩ : ∃ f : Nat, c 81 = (f : Int) := ⟨(c 81).toNat, by omega⟩
  rw [hff] at ci h7
  clear i0 i1
  have hsq : 56 + f < 64 := by omega
  obtain ⟨sq, hs⟩ : ∃ sq : Nat, 56 + f = sq := ⟨_, rfl⟩
  obtain ⟨k0, k1⟩ := find_bd c 1 (pos_bd hc)
  obtain ⟨K, hK⟩ : ∃ K, S.find c 1 6 = K := ⟨_, rfl⟩
  rw [hK] at k0 k1
  obtain ⟨y, hy⟩ : ∃ y, c (1 + sq) = y := ⟨_, rfl⟩
  obtain ⟨x0, x1⟩ := pos_bd hc sq (by omega)
  rw [hy] at x0 x1
  obtain ⟨v0, _⟩ := pos_u8 hc (i := 0) (by decide) rfl
  obtain ⟨v, hvv⟩ : ∃ v : Nat, c 0 = (v : Int) := ⟨(c 0).toNat, by omega⟩
  obtain ⟨cas, hcas⟩ : ∃ cas, V.castles (c 0) = cas := ⟨_, rfl⟩
  have HFind : Hid (∀ w, Tb w → Calls Tryd.prog 75 #[.agg (posC c), .int .u8 1, .int .u8 6] w fun e w' => e = .returned (.int .i64 K) ∧ Below w.heap.size w w') := Lib.hid (fun w h => by
    rw [← hK]
    exact find_any c 1 6 w (pos_bd hc) h)
  have HCas : Hid (∀ w, Calls Tryd.prog 76 #[.int .u8 (c 0)] w fun e w' => e = .returned (.bool cas) ∧ Below w.heap.size w w') := Lib.hid (fun w => by
    rw [← hcas, hvv]
    exact rcastles_any v w)
  have HMk : Hid (∀ w, Calls Tryd.prog 77 #[.int .u8 1, .int .u8 4] w fun e w' => e = .returned (.int .u8 12) ∧ w = w') := Lib.hid (fun w => make_any 1 4 w (by decide) (by decide) (by decide) (by decide))
  have HE := Lib.hid (show Y.right c 1 0 = (cas && ((decide (0 ≤ K - 56) && decide (K - 56 ≤ 7)) && ((y == 12) && ((c 0 == 1 || (K - 56 == 4 && (f : Int) == 7)) && decide (K - 56 < (f : Int)))))) by
    have hfl : Y.file c 1 = K - 56 := by
      show S.find c 1 6 - 56 = _
      rw [hK]
    unfold Y.right Y.right' Y.dir
    rw [hfl, show 79 + 2 * 1 + 0 = 81 from rfl, hff, hcas, decide_eq_false (show ¬ (f : Int) < 0 by omega), Int.toNat_natCast, show 56 * 1 + f = sq by omega, hy]
    rfl)
  have hb0 : Below w.heap.size w (w.alloc (.cells (posC c) 70)) := (Below.refl _ _).alloc (Nat.le_refl _) _
  have HT := Lib.hid (tb_below hT hb0)
  have HW := Lib.hid (And.intro hp hb0)
  have HY := Lib.hid hy
  have HS := Lib.hid hs
  have dfn : decide ((f : Int) < 0) = false := decide_eq_false (by omega)
  clear hf hff hK hy hvv hcas hb0 hT hc v0
  go_enter Tryd.func43, Tryd.ntmps43
  go_wp2_with (first
    | ((with_reducible refine wp_load_posIn rfl _ rfl ?_); refine ⟨_, _, c, rfl, HW.out.1, ?_⟩)
    | (go_at_call 75; refine (HFind.out _ HT.out).mono ?_; rintro e w2 ⟨rfl, hb2⟩))
  have hp2 := HW.out.1.below hb2
  have HB2 := Lib.hid (below_next HW.out.2 hb2)
  have HP2 := Lib.hid hp2
  have hlt2 : w.heap.size < w2.heap.size := hp2.lt
  have c0 := hp2.cell 0 (by decide) .u8 rfl
  have cy := hp2.bd sq (by have := HS.out; omega)
  rw [HY.out] at cy
  have e1 : IntKind.i64.wrap (56 + (f : Int)) = (sq : Int) := by have := HS.out; rw [IntKind.wrap_i64]; omega
  have e1' : IntKind.i64.wrap (f : Int) = (f : Int) := by rw [IntKind.wrap_i64]; omega
  have e2 : 0 ≤ (sq : Int) ∧ (sq : Int) < 64 := by have := HS.out; omega
  clear hp hp2 ci hb2 hs dfn
  cases cas
  · have E := Lib.hid (HE.out.trans rfl)
    clear HE
    refine region_below (by kernel_rfl) (by kernel_rfl) ?_
    try simp only [Act.put]
    repeat (first
      | go_big_quiet_step (first
        | (go_at_call 76; exact quiet_below (HCas.out _))
        | (go_at_call 77; exact quiet_below_same (HMk.out _))))
    refine wpQuiet_nil ?_
    intro w3 hb3
    have hp3 := HP2.out.below hb3
    have hbr := below_next HB2.out hb3
    have c0' := hp3.cell 0 (by decide) .u8 rfl
    clear hb3 c0 cy e1 e1' e2 hlt2
    go_wp2
    go_ret
    exact ⟨ret_bool E.out.symm, hbr⟩
  · by_cases g1 : K < 56
    · have d1 : decide (K < 56) = true := decide_eq_true g1
      have E := Lib.hid (show Y.right c 1 0 = false by rw [HE.out, decide_eq_false (show ¬ 0 ≤ K - 56 by omega)]; rfl)
      clear HE g1
      refine region_below (by kernel_rfl) (by kernel_rfl) ?_
      try simp only [Act.put]
      repeat (first
        | go_big_quiet_step (first
          | (go_at_call 76; exact quiet_below (HCas.out _))
          | (go_at_call 77; exact quiet_below_same (HMk.out _))))
      refine wpQuiet_nil ?_
      intro w3 hb3
      have hp3 := HP2.out.below hb3
      have hbr := below_next HB2.out hb3
      have c0' := hp3.cell 0 (by decide) .u8 rfl
      clear hb3 c0 cy e1 e1' e2 hlt2
      go_wp2
      go_ret
      exact ⟨ret_bool E.out.symm, hbr⟩
    · have d1 : decide (K < 56) = false := decide_eq_false g1
      by_cases g2 : 63 < K
      · have d2 : decide (63 < K) = true := decide_eq_true g2
        have E := Lib.hid (show Y.right c 1 0 = false by rw [HE.out, decide_eq_false (show ¬ K - 56 ≤ 7 by omega), Bool.and_false]; rfl)
        clear HE g1 g2
        refine region_below (by kernel_rfl) (by kernel_rfl) ?_
        try simp only [Act.put]
        repeat (first
          | go_big_quiet_step (first
            | (go_at_call 76; exact quiet_below (HCas.out _))
            | (go_at_call 77; exact quiet_below_same (HMk.out _))))
        refine wpQuiet_nil ?_
        intro w3 hb3
        have hp3 := HP2.out.below hb3
        have hbr := below_next HB2.out hb3
        have c0' := hp3.cell 0 (by decide) .u8 rfl
        clear hb3 c0 cy e1 e1' e2 hlt2
        go_wp2
        go_ret
        exact ⟨ret_bool E.out.symm, hbr⟩
      · have d2 : decide (63 < K) = false := decide_eq_false g2
        cases hx : (y != 12)
        rotate_left
        · have E := Lib.hid (show Y.right c 1 0 = false by rw [HE.out, show (y == 12) = false by simpa using hx, Bool.false_and, Bool.and_false, Bool.and_false])
          clear HE g1 g2
          refine region_below (by kernel_rfl) (by kernel_rfl) ?_
          try simp only [Act.put]
          repeat (first
            | go_big_quiet_step (first
              | (go_at_call 76; exact quiet_below (HCas.out _))
              | (go_at_call 77; exact quiet_below_same (HMk.out _))))
          refine wpQuiet_nil ?_
          intro w3 hb3
          have hp3 := HP2.out.below hb3
          have hbr := below_next HB2.out hb3
          have c0' := hp3.cell 0 (by decide) .u8 rfl
          clear hb3 c0 cy e1 e1' e2 hlt2
          go_wp2
          go_ret
          exact ⟨ret_bool E.out.symm, hbr⟩
        · have HE2 := Lib.hid (show Y.right c 1 0 = ((c 0 == 1 || (K - 56 == 4 && (f : Int) == 7)) && decide (K - 56 < (f : Int))) by rw [HE.out, decide_eq_true (show 0 ≤ K - 56 by omega), decide_eq_true (show K - 56 ≤ 7 by omega), show (y == 12) = true by simpa using hx]; rfl)
          obtain ⟨J, hJ⟩ : ∃ J, K - 56 = J := ⟨_, rfl⟩
          rw [hJ] at HE2
          have hKJ : K = J + 56 := by omega
          subst hKJ
          have w1 : IntKind.i64.wrap (J + 56 - 56) = J := by rw [IntKind.wrap_i64]; omega
          clear hJ
          cases f1 : (c 0 != 1) <;> cases f2 : (J != 4) <;> cases f3 : ((f : Int) != 7) <;> cases f4 : decide (J < (f : Int))
          all_goals
            have E := Lib.hid (show Y.right c 1 0 = _ by rw [HE2.out, f4, eq_not_ne (c 0), eq_not_ne J, eq_not_ne (f : Int), f1, f2, f3])
            clear HE HE2 g1 g2
            refine region_below (by kernel_rfl) (by kernel_rfl) ?_
            try simp only [Act.put]
            repeat (first
              | go_big_quiet_step (first
                | (go_at_call 76; exact quiet_below (HCas.out _))
                | (go_at_call 77; exact quiet_below_same (HMk.out _))))
            refine wpQuiet_nil ?_
            intro w3 hb3
            have hp3 := HP2.out.below hb3
            have hbr := below_next HB2.out hb3
            have c0' := hp3.cell 0 (by decide) .u8 rfl
            clear hb3 c0 cy e1 e1' e2 hlt2
            go_wp2
            go_ret
            exact ⟨ret_bool E.out.symm, hbr⟩

set_option maxRecDepth 100000 in
set_option maxHeartbeats 8000000 in
theorem vright_11 (c : Nat → Int) (w : World) (hc : PosOk c) (hT : Tb w) (h7 : c 82 ≤ 7) :
    Calls Tryd.prog 43 #[.agg (posC c), .int .u8 1, .int .i64 1] w fun e w' => e = .returned (.bool (Y.right c 1 1)) ∧ Below w.heap.size w w' := by
  have hp := PosIn.new w 70 c
  have ci := hp.cell 82 (by decide) .i8 rfl
  obtain ⟨i0, i1⟩ := pos_i8z hc (i := 82) (by decide) rfl
  by_cases hf : c 82 < 0
  · have d : decide (c 82 < 0) = true := decide_eq_true hf
    have E := Lib.hid (show Y.right c 1 1 = true by unfold Y.right; rw [show 79 + 2 * 1 + 1 = 82 from rfl, d]; rfl)
    clear h7 hc
    go_enter Tryd.func43, Tryd.ntmps43
    go_wp2
    go_ret
    exact ⟨ret_bool E.out.symm, (Below.refl _ _).alloc (Nat.le_refl _) _⟩
  obtain ⟨f, hff⟩ : ∃ f : Nat, c 82 = (f : Int) := ⟨(c 82).toNat, by omega⟩
  rw [hff] at ci h7
  clear i0 i1
  have hsq : 56 + f < 64 := by omega
  obtain ⟨sq, hs⟩ : ∃ sq : Nat, 56 + f = sq := ⟨_, rfl⟩
  obtain ⟨k0, k1⟩ := find_bd c 1 (pos_bd hc)
  obtain ⟨K, hK⟩ : ∃ K, S.find c 1 6 = K := ⟨_, rfl⟩
  rw [hK] at k0 k1
  obtain ⟨y, hy⟩ : ∃ y, c (1 + sq) = y := ⟨_, rfl⟩
  obtain ⟨x0, x1⟩ := pos_bd hc sq (by omega)
  rw [hy] at x0 x1
  obtain ⟨v0, _⟩ := pos_u8 hc (i := 0) (by decide) rfl
  obtain ⟨v, hvv⟩ : ∃ v : Nat, c 0 = (v : Int) := ⟨(c 0).toNat, by omega⟩
  obtain ⟨cas, hcas⟩ : ∃ cas, V.castles (c 0) = cas := ⟨_, rfl⟩
  have HFind : Hid (∀ w, Tb w → Calls Tryd.prog 75 #[.agg (posC c), .int .u8 1, .int .u8 6] w fun e w' => e = .returned (.int .i64 K) ∧ Below w.heap.size w w') := Lib.hid (fun w h => by
    rw [← hK]
    exact find_any c 1 6 w (pos_bd hc) h)
  have HCas : Hid (∀ w, Calls Tryd.prog 76 #[.int .u8 (c 0)] w fun e w' => e = .returned (.bool cas) ∧ Below w.heap.size w w') := Lib.hid (fun w => by
    rw [← hcas, hvv]
    exact rcastles_any v w)
  have HMk : Hid (∀ w, Calls Tryd.prog 77 #[.int .u8 1, .int .u8 4] w fun e w' => e = .returned (.int .u8 12) ∧ w = w') := Lib.hid (fun w => make_any 1 4 w (by decide) (by decide) (by decide) (by decide))
  have HE := Lib.hid (show Y.right c 1 1 = (cas && ((decide (0 ≤ K - 56) && decide (K - 56 ≤ 7)) && ((y == 12) && ((c 0 == 1 || (K - 56 == 4 && (f : Int) == 0)) && decide ((f : Int) < K - 56))))) by
    have hfl : Y.file c 1 = K - 56 := by
      show S.find c 1 6 - 56 = _
      rw [hK]
    unfold Y.right Y.right' Y.dir
    rw [hfl, show 79 + 2 * 1 + 1 = 82 from rfl, hff, hcas, decide_eq_false (show ¬ (f : Int) < 0 by omega), Int.toNat_natCast, show 56 * 1 + f = sq by omega, hy]
    rfl)
  have hb0 : Below w.heap.size w (w.alloc (.cells (posC c) 70)) := (Below.refl _ _).alloc (Nat.le_refl _) _
  have HT := Lib.hid (tb_below hT hb0)
  have HW := Lib.hid (And.intro hp hb0)
  have HY := Lib.hid hy
  have HS := Lib.hid hs
  have dfn : decide ((f : Int) < 0) = false := decide_eq_false (by omega)
  clear hf hff hK hy hvv hcas hb0 hT hc v0
  go_enter Tryd.func43, Tryd.ntmps43
  go_wp2_with (first
    | ((with_reducible refine wp_load_posIn rfl _ rfl ?_); refine ⟨_, _, c, rfl, HW.out.1, ?_⟩)
    | (go_at_call 75; refine (HFind.out _ HT.out).mono ?_; rintro e w2 ⟨rfl, hb2⟩))
  have hp2 := HW.out.1.below hb2
  have HB2 := Lib.hid (below_next HW.out.2 hb2)
  have HP2 := Lib.hid hp2
  have hlt2 : w.heap.size < w2.heap.size := hp2.lt
  have c0 := hp2.cell 0 (by decide) .u8 rfl
  have cy := hp2.bd sq (by have := HS.out; omega)
  rw [HY.out] at cy
  have e1 : IntKind.i64.wrap (56 + (f : Int)) = (sq : Int) := by have := HS.out; rw [IntKind.wrap_i64]; omega
  have e1' : IntKind.i64.wrap (f : Int) = (f : Int) := by rw [IntKind.wrap_i64]; omega
  have e2 : 0 ≤ (sq : Int) ∧ (sq : Int) < 64 := by have := HS.out; omega
  clear hp hp2 ci hb2 hs dfn
  cases cas
  · have E := Lib.hid (HE.out.trans rfl)
    clear HE
    refine region_below (by kernel_rfl) (by kernel_rfl) ?_
    try simp only [Act.put]
    repeat (first
      | go_big_quiet_step (first
        | (go_at_call 76; exact quiet_below (HCas.out _))
        | (go_at_call 77; exact quiet_below_same (HMk.out _))))
    refine wpQuiet_nil ?_
    intro w3 hb3
    have hp3 := HP2.out.below hb3
    have hbr := below_next HB2.out hb3
    have c0' := hp3.cell 0 (by decide) .u8 rfl
    clear hb3 c0 cy e1 e1' e2 hlt2
    go_wp2
    go_ret
    exact ⟨ret_bool E.out.symm, hbr⟩
  · by_cases g1 : K < 56
    · have d1 : decide (K < 56) = true := decide_eq_true g1
      have E := Lib.hid (show Y.right c 1 1 = false by rw [HE.out, decide_eq_false (show ¬ 0 ≤ K - 56 by omega)]; rfl)
      clear HE g1
      refine region_below (by kernel_rfl) (by kernel_rfl) ?_
      try simp only [Act.put]
      repeat (first
        | go_big_quiet_step (first
          | (go_at_call 76; exact quiet_below (HCas.out _))
          | (go_at_call 77; exact quiet_below_same (HMk.out _))))
      refine wpQuiet_nil ?_
      intro w3 hb3
      have hp3 := HP2.out.below hb3
      have hbr := below_next HB2.out hb3
      have c0' := hp3.cell 0 (by decide) .u8 rfl
      clear hb3 c0 cy e1 e1' e2 hlt2
      go_wp2
      go_ret
      exact ⟨ret_bool E.out.symm, hbr⟩
    · have d1 : decide (K < 56) = false := decide_eq_false g1
      by_cases g2 : 63 < K
      · have d2 : decide (63 < K) = true := decide_eq_true g2
        have E := Lib.hid (show Y.right c 1 1 = false by rw [HE.out, decide_eq_false (show ¬ K - 56 ≤ 7 by omega), Bool.and_false]; rfl)
        clear HE g1 g2
        refine region_below (by kernel_rfl) (by kernel_rfl) ?_
        try simp only [Act.put]
        repeat (first
          | go_big_quiet_step (first
            | (go_at_call 76; exact quiet_below (HCas.out _))
            | (go_at_call 77; exact quiet_below_same (HMk.out _))))
        refine wpQuiet_nil ?_
        intro w3 hb3
        have hp3 := HP2.out.below hb3
        have hbr := below_next HB2.out hb3
        have c0' := hp3.cell 0 (by decide) .u8 rfl
        clear hb3 c0 cy e1 e1' e2 hlt2
        go_wp2
        go_ret
        exact ⟨ret_bool E.out.symm, hbr⟩
      · have d2 : decide (63 < K) = false := decide_eq_false g2
        cases hx : (y != 12)
        rotate_left
        · have E := Lib.hid (show Y.right c 1 1 = false by rw [HE.out, show (y == 12) = false by simpa using hx, Bool.false_and, Bool.and_false, Bool.and_false])
          clear HE g1 g2
          refine region_below (by kernel_rfl) (by kernel_rfl) ?_
          try simp only [Act.put]
          repeat (first
            | go_big_quiet_step (first
              | (go_at_call 76; exact quiet_below (HCas.out _))
              | (go_at_call 77; exact quiet_below_same (HMk.out _))))
          refine wpQuiet_nil ?_
          intro w3 hb3
          have hp3 := HP2.out.below hb3
          have hbr := below_next HB2.out hb3
          have c0' := hp3.cell 0 (by decide) .u8 rfl
          clear hb3 c0 cy e1 e1' e2 hlt2
          go_wp2
          go_ret
          exact ⟨ret_bool E.out.symm, hbr⟩
        · have HE2 := Lib.hid (show Y.right c 1 1 = ((c 0 == 1 || (K - 56 == 4 && (f : Int) == 0)) && decide ((f : Int) < K - 56)) by rw [HE.out, decide_eq_true (show 0 ≤ K - 56 by omega), decide_eq_true (show K - 56 ≤ 7 by omega), show (y == 12) = true by simpa using hx]; rfl)
          obtain ⟨J, hJ⟩ : ∃ J, K - 56 = J := ⟨_, rfl⟩
          rw [hJ] at HE2
          have hKJ : K = J + 56 := by omega
          subst hKJ
          have w1 : IntKind.i64.wrap (J + 56 - 56) = J := by rw [IntKind.wrap_i64]; omega
          clear hJ
          cases f1 : (c 0 != 1) <;> cases f2 : (J != 4) <;> cases f3 : ((f : Int) != 0) <;> cases f4 : decide ((f : Int) < J)
          all_goals
            have E := Lib.hid (show Y.right c 1 1 = _ by rw [HE2.out, f4, eq_not_ne (c 0), eq_not_ne J, eq_not_ne (f : Int), f1, f2, f3])
            clear HE HE2 g1 g2
            refine region_below (by kernel_rfl) (by kernel_rfl) ?_
            try simp only [Act.put]
            repeat (first
              | go_big_quiet_step (first
                | (go_at_call 76; exact quiet_below (HCas.out _))
                | (go_at_call 77; exact quiet_below_same (HMk.out _))))
            refine wpQuiet_nil ?_
            intro w3 hb3
            have hp3 := HP2.out.below hb3
            have hbr := below_next HB2.out hb3
            have c0' := hp3.cell 0 (by decide) .u8 rfl
            clear hb3 c0 cy e1 e1' e2 hlt2
            go_wp2
            go_ret
            exact ⟨ret_bool E.out.symm, hbr⟩

theorem vright_any (c : Nat → Int) (t k : Nat) (w : World) (hc : PosOk c) (hT : Tb w) (ht : t < 2) (hk : k < 2) (h7 : c (79 + 2 * t + k) ≤ 7) :
    Calls Tryd.prog 43 #[.agg (posC c), .int .u8 (t : Int), .int .i64 (k : Int)] w fun e w' => e = .returned (.bool (Y.right c t k)) ∧ Below w.heap.size w w' := by
  rcases (show (t = 0 ∧ k = 0) ∨ (t = 0 ∧ k = 1) ∨ (t = 1 ∧ k = 0) ∨ (t = 1 ∧ k = 1) by omega) with ⟨rfl, rfl⟩ | ⟨rfl, rfl⟩ | ⟨rfl, rfl⟩ | ⟨rfl, rfl⟩
  · exact vright_00 c w hc hT h7
  · exact vright_01 c w hc hT h7
  · exact vright_10 c w hc hT h7
  · exact vright_11 c w hc hT h7
namespace Y
def RtTo (c : Nat → Int) (t : Nat) : Prop := ∀ j, j < t → (right c j 0 && right c j 1) = true
end Y
set_option maxRecDepth 100000 in
set_option maxHeartbeats 4000000 in
theorem vrooks_any (c : Nat → Int) (w : World) (hc : PosOk c) (hT : Tb w) (h7 : ∀ t k, t < 2 → k < 2 → c (79 + 2 * t + k) ≤ 7) :
    Calls Tryd.prog 67 #[.agg (posC c)] w fun e w' => e = .returned (.bool (Y.rooks c)) ∧ Below w.heap.size w w' := by
  have hp := PosIn.new w 70 c
  have hb0 : Below w.heap.size w (w.alloc (.cells (posC c) 70)) := (Below.refl _ _).alloc (Nat.le_refl _) _
  have HT := Lib.hid (fun W (hb : Below w.heap.size w W) => tb_below hT hb)
  have HR : Hid (∀ (t k : Nat) (a b : Int) w, Tb w → t < 2 → k < 2 → a = t → b = k → Calls Tryd.prog 43 #[.agg (posC c), .int .u8 a, .int .i64 b] w fun e w' => e = .returned (.bool (Y.right c t k)) ∧ Below w.heap.size w w') :=
    Lib.hid (fun t k a b w h ht hk ea eb => by rw [ea, eb]; exact vright_any c t k w hc h ht hk (h7 t k ht hk))
  have HP := Lib.hid (And.intro hp hb0)
  have HE := Lib.hid (show Y.rooks c = ((Y.right c 0 0 && Y.right c 0 1) && (Y.right c 1 0 && Y.right c 1 1)) from rfl)
  obtain ⟨r00, g00⟩ : ∃ r, Y.right c 0 0 = r := ⟨_, rfl⟩
  obtain ⟨r01, g01⟩ : ∃ r, Y.right c 0 1 = r := ⟨_, rfl⟩
  obtain ⟨r10, g10⟩ : ∃ r, Y.right c 1 0 = r := ⟨_, rfl⟩
  obtain ⟨r11, g11⟩ : ∃ r, Y.right c 1 1 = r := ⟨_, rfl⟩
  have HR00 := Lib.hid (fun w h => HR.out 0 0 0 0 w h (by omega) (by omega) rfl rfl)
  have HR01 := Lib.hid (fun w h => HR.out 0 1 0 1 w h (by omega) (by omega) rfl rfl)
  have HR10 := Lib.hid (fun w h => HR.out 1 0 1 0 w h (by omega) (by omega) rfl rfl)
  have HR11 := Lib.hid (fun w h => HR.out 1 1 1 1 w h (by omega) (by omega) rfl rfl)
  rw [g00] at HR00
  rw [g01] at HR01
  rw [g10] at HR10
  rw [g11] at HR11
  rw [g00, g01, g10, g11] at HE
  clear hp hb0 hT hc h7 HR g00 g01 g10 g11
  go_enter Tryd.func67, Tryd.ntmps67
  go_wp2
  go_loopw [3] (fun i wr => ∃ t : Nat, t ≤ 2 ∧ i = .int .u8 (t : Int) ∧ (1 ≤ t → (r00 && r01) = true) ∧ (2 ≤ t → (r10 && r11) = true) ∧ PosIn wr w.heap.size 70 c ∧ Below w.heap.size w wr) (fun i _ => 2 - (intOf i).toNat)
  case atStart => exact ⟨0, Nat.zero_le _, rfl, (fun h => by omega), (fun h => by omega), HP.out.1, HP.out.2⟩
  case round =>
    obtain ⟨t, ht, rfl, hz1, hz2, hp, hbr⟩ := hrel
    have HZ := Lib.hid (And.intro hz1 hz2)
    have HQ := Lib.hid (And.intro hp hbr)
    clear hz1 hz2 hp hbr
    rcases (show t = 0 ∨ t = 1 ∨ t = 2 by omega) with rfl | rfl | rfl

    · cases r00
      · have E := Lib.hid (show Y.rooks c = false by rw [HE.out]; simp)
        go_wp2_with (first | ((with_reducible refine wp_load_rowG rfl 70 _ rfl Tryd.underlying70 rfl ?_); refine ⟨w.heap.size, _, posC c, rfl, HQ.out.1.row, Tryd.info_Ask.trans (by rw [posC_size]), ?_⟩; have tok1 : True := trivial) | (go_at_call 43; refine (HR00.out _ (HT.out _ HQ.out.2)).mono ?_; rintro e w2 ⟨rfl, hb2⟩; have hp2 := HQ.out.1.below hb2; have hbr2 := below_next HQ.out.2 hb2))
        go_ret
        exact ⟨ret_bool E.out.symm, hbr2⟩
      · cases r01
        · have E := Lib.hid (show Y.rooks c = false by rw [HE.out]; simp)
          go_wp2_with (first | ((with_reducible refine wp_load_rowG rfl 70 _ rfl Tryd.underlying70 rfl ?_); refine ⟨w.heap.size, _, posC c, rfl, hp2.row, Tryd.info_Ask.trans (by rw [posC_size]), ?_⟩) | ((with_reducible refine wp_load_rowG rfl 70 _ rfl Tryd.underlying70 rfl ?_); refine ⟨w.heap.size, _, posC c, rfl, HQ.out.1.row, Tryd.info_Ask.trans (by rw [posC_size]), ?_⟩; have tok1 : True := trivial) | (go_at_call 43; refine (HR01.out _ (HT.out _ hbr2)).mono ?_; rintro e w3 ⟨rfl, hb3⟩; have hp3 := hp2.below hb3; have hbr3 := below_next hbr2 hb3) | (go_at_call 43; refine (HR00.out _ (HT.out _ HQ.out.2)).mono ?_; rintro e w2 ⟨rfl, hb2⟩; have hp2 := HQ.out.1.below hb2; have hbr2 := below_next HQ.out.2 hb2))
          go_ret
          exact ⟨ret_bool E.out.symm, hbr3⟩
        · go_wp2_with (first | ((with_reducible refine wp_load_rowG rfl 70 _ rfl Tryd.underlying70 rfl ?_); refine ⟨w.heap.size, _, posC c, rfl, hp2.row, Tryd.info_Ask.trans (by rw [posC_size]), ?_⟩) | ((with_reducible refine wp_load_rowG rfl 70 _ rfl Tryd.underlying70 rfl ?_); refine ⟨w.heap.size, _, posC c, rfl, HQ.out.1.row, Tryd.info_Ask.trans (by rw [posC_size]), ?_⟩; have tok1 : True := trivial) | (go_at_call 43; refine (HR01.out _ (HT.out _ hbr2)).mono ?_; rintro e w3 ⟨rfl, hb3⟩; have hp3 := hp2.below hb3; have hbr3 := below_next hbr2 hb3) | (go_at_call 43; refine (HR00.out _ (HT.out _ HQ.out.2)).mono ?_; rintro e w2 ⟨rfl, hb2⟩; have hp2 := HQ.out.1.below hb2; have hbr2 := below_next HQ.out.2 hb2))
          go_roundw
          case rel => exact ⟨1, by omega, rfl, (fun _ => rfl), (fun h => by omega), hp3, hbr3⟩
          case measure => simp [intOf]

    · cases r10
      · have E := Lib.hid (show Y.rooks c = false by rw [HE.out]; simp)
        go_wp2_with (first | ((with_reducible refine wp_load_rowG rfl 70 _ rfl Tryd.underlying70 rfl ?_); refine ⟨w.heap.size, _, posC c, rfl, HQ.out.1.row, Tryd.info_Ask.trans (by rw [posC_size]), ?_⟩; have tok1 : True := trivial) | (go_at_call 43; refine (HR10.out _ (HT.out _ HQ.out.2)).mono ?_; rintro e w2 ⟨rfl, hb2⟩; have hp2 := HQ.out.1.below hb2; have hbr2 := below_next HQ.out.2 hb2))
        go_ret
        exact ⟨ret_bool E.out.symm, hbr2⟩
      · cases r11
        · have E := Lib.hid (show Y.rooks c = false by rw [HE.out]; simp)
          go_wp2_with (first | ((with_reducible refine wp_load_rowG rfl 70 _ rfl Tryd.underlying70 rfl ?_); refine ⟨w.heap.size, _, posC c, rfl, hp2.row, Tryd.info_Ask.trans (by rw [posC_size]), ?_⟩) | ((with_reducible refine wp_load_rowG rfl 70 _ rfl Tryd.underlying70 rfl ?_); refine ⟨w.heap.size, _, posC c, rfl, HQ.out.1.row, Tryd.info_Ask.trans (by rw [posC_size]), ?_⟩; have tok1 : True := trivial) | (go_at_call 43; refine (HR11.out _ (HT.out _ hbr2)).mono ?_; rintro e w3 ⟨rfl, hb3⟩; have hp3 := hp2.below hb3; have hbr3 := below_next hbr2 hb3) | (go_at_call 43; refine (HR10.out _ (HT.out _ HQ.out.2)).mono ?_; rintro e w2 ⟨rfl, hb2⟩; have hp2 := HQ.out.1.below hb2; have hbr2 := below_next HQ.out.2 hb2))
          go_ret
          exact ⟨ret_bool E.out.symm, hbr3⟩
        · go_wp2_with (first | ((with_reducible refine wp_load_rowG rfl 70 _ rfl Tryd.underlying70 rfl ?_); refine ⟨w.heap.size, _, posC c, rfl, hp2.row, Tryd.info_Ask.trans (by rw [posC_size]), ?_⟩) | ((with_reducible refine wp_load_rowG rfl 70 _ rfl Tryd.underlying70 rfl ?_); refine ⟨w.heap.size, _, posC c, rfl, HQ.out.1.row, Tryd.info_Ask.trans (by rw [posC_size]), ?_⟩; have tok1 : True := trivial) | (go_at_call 43; refine (HR11.out _ (HT.out _ hbr2)).mono ?_; rintro e w3 ⟨rfl, hb3⟩; have hp3 := hp2.below hb3; have hbr3 := below_next hbr2 hb3) | (go_at_call 43; refine (HR10.out _ (HT.out _ HQ.out.2)).mono ?_; rintro e w2 ⟨rfl, hb2⟩; have hp2 := HQ.out.1.below hb2; have hbr2 := below_next HQ.out.2 hb2))
          go_roundw
          case rel => exact ⟨2, by omega, rfl, (fun _ => HZ.out.1 (by omega)), (fun _ => rfl), hp3, hbr3⟩
          case measure => simp [intOf]

    · have E := Lib.hid (show Y.rooks c = true by rw [HE.out, HZ.out.1 (by omega), HZ.out.2 (by omega)]; rfl)
      have hbr := HQ.out.2
      go_wp2
      go_ret
      exact ⟨ret_bool E.out.symm, hbr⟩
end Go.Proofs.YtlphjjekamhnlaaDoor
