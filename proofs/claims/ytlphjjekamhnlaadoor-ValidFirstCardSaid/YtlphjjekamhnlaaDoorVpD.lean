/- The program's package valid: passing, check. -/
import Derived.Test.YtlphjjekamhnlaaDoorVpC
namespace Go.Proofs.YtlphjjekamhnlaaDoor
open Go.RowKit Go.Sort
attribute [local go_sem] Oper.semAt_some

set_option maxRecDepth 100000 in
set_option maxHeartbeats 8000000 in
theorem vpassing_0 (c : Nat → Int) (w : World) (hc : PosOk c) (hT : Tb w) (ht : c 78 = 0) (h64 : c 83 < 64) :
    Calls Tryd.prog 44 #[.agg (posC c)] w fun e w' => e = .returned (.bool (Y.passing c)) ∧ Below w.heap.size w w' := by
  have hp := PosIn.new w 70 c
  have c83 := hp.cell 83 (by decide) .i8 rfl
  obtain ⟨i0, i1⟩ := pos_i8z hc (i := 83) (by decide) rfl
  by_cases hf : c 83 < 0
  · have d : decide (c 83 < 0) = true := decide_eq_true hf
    have E := Lib.hid (show Y.passing c = true by unfold Y.passing; rw [d]; rfl)
    clear hT hc
    go_enter Tryd.func44, Tryd.ntmps44
    go_wp2
    go_ret
    exact ⟨ret_bool E.out.symm, (Below.refl _ _).alloc (Nat.le_refl _) _⟩
  obtain ⟨s, hs⟩ : ∃ s : Nat, c 83 = (s : Int) := ⟨(c 83).toNat, by omega⟩
  have c78 := hp.cell 78 (by decide) .u8 rfl
  rw [ht] at c78
  rw [hs] at c83 h64
  have hs64 : s < 64 := by omega
  have dfn : decide ((s : Int) < 0) = false := decide_eq_false (by omega)
  obtain ⟨q, hq⟩ : ∃ q : Nat, s / 8 = q := ⟨_, rfl⟩
  have hq1 : (s : Int).tdiv 8 = (q : Int) := by rw [Int.tdiv_eq_ediv_of_nonneg (by omega)]; omega
  have hq2 : (s : Int) / 8 = (q : Int) := by omega
  have y0 := hp.bd s hs64
  obtain ⟨x0, hx0⟩ : ∃ x, c (1 + s) = x := ⟨_, rfl⟩
  rw [hx0] at y0
  have HMk : Hid (∀ w, Calls Tryd.prog 77 #[.int .u8 1, .int .u8 1] w fun e w' => e = .returned (.int .u8 9) ∧ w = w') := Lib.hid (fun w => make_any 1 1 w (by decide) (by decide) (by decide) (by decide))
  have HE := Lib.hid (show Y.passing c = Y.passAt c s by
    unfold Y.passing
    rw [decide_eq_false hf, hs, Int.toNat_natCast]
    rfl)
  have hb0 : Below w.heap.size w (w.alloc (.cells (posC c) 70)) := (Below.refl _ _).alloc (Nat.le_refl _) _
  have HW := Lib.hid (And.intro hp hb0)
  have HT := Lib.hid (fun W (hb : Below w.heap.size w W) => tb_below hT hb)
  have HC := Lib.hid hc
  have HX0 := Lib.hid hx0
  have HH : Hid (Y.passAt c s = (decide (s / 8 = 5) && (c (1 + s) == 0 && (c (1 + (s + 8)) == 0 && (c (1 + (s - 8)) == 9 && (U (bAnd (K.by c s 0) (S.of c 0 1)) != 0)))))) := Lib.hid (by
    unfold Y.passAt Y.passHit
    rw [if_neg (by rw [ht]; decide), ht])
  have hsz : (w.alloc (.cells (posC c) 70)).heap.size = w.heap.size + 1 := World.size_alloc _ _
  have hblt : w.heap.size < (w.alloc (.cells (posC c) 70)).heap.size := by omega
  obtain ⟨W, hW⟩ : ∃ W, w.alloc (.cells (posC c) 70) = W := ⟨_, rfl⟩
  rw [hW] at c83 c78 y0 HW hblt
  clear hf hT hc hx0 hp hb0 ht i0 i1 hsz
  by_cases hr : q = 5
  rotate_left
  · have dr : ((q : Int) != 5) = true := by simp; omega
    have E := Lib.hid (show Y.passing c = false by rw [HE.out, HH.out, decide_eq_false (by omega), Bool.false_and])
    clear hr HH HE HX0
    go_enter Tryd.func44, Tryd.ntmps44
    go_wp2
    skip
    refine region_below (by kernel_rfl) (by kernel_rfl) ?_
    try simp only [Act.put]
    repeat (first
      | go_big_quiet_step (first
        | (go_at_call 77; exact quiet_below_same (HMk.out _))))
    refine wpQuiet_nil ?_
    intro w3 hb3
    have hp3 := HW.out.1.below hb3
    have hbr := below_next HW.out.2 hb3
    go_wp2
    go_ret
    exact ⟨ret_bool E.out.symm, hbr⟩
  subst hr
  obtain ⟨a, ha⟩ : ∃ a : Nat, s + 8 = a := ⟨_, rfl⟩
  obtain ⟨b, hb⟩ : ∃ b : Nat, s - 8 = b := ⟨_, rfl⟩
  have ya := HW.out.1.bd a (by omega)
  have yb := HW.out.1.bd b (by omega)
  rw [hq, ha, hb] at HH
  have e1 : IntKind.i64.wrap ((s : Int) + 8) = (a : Int) := by rw [IntKind.wrap_i64]; omega
  have e2 : IntKind.i64.wrap ((s : Int) - 8) = (b : Int) := by rw [IntKind.wrap_i64]; omega
  have ba : 0 ≤ (a : Int) ∧ (a : Int) < 64 := by omega
  have bb : 0 ≤ (b : Int) ∧ (b : Int) < 64 := by omega
  have bs : 0 ≤ (s : Int) ∧ (s : Int) < 64 := by omega
  obtain ⟨xa, hxa⟩ : ∃ x, c (1 + a) = x := ⟨_, rfl⟩
  obtain ⟨xb, hxb⟩ : ∃ x, c (1 + b) = x := ⟨_, rfl⟩
  rw [hxa] at ya HH
  rw [hxb] at yb HH
  rw [HX0.out] at HH
  have hq1' : (s : Int).tdiv 8 = 5 := hq1
  have hq2' : (s : Int) / 8 = 5 := hq2
  clear hq1 hq2 hq HX0 hxa hxb ha hb
  cases f0 : (x0 != 0)
  rotate_left
  · have E := Lib.hid (show Y.passing c = false by rw [HE.out, HH.out, eq_not_ne x0, f0]; simp)
    clear HH HE
    go_enter Tryd.func44, Tryd.ntmps44
    go_wp2
    skip
    refine region_below (by kernel_rfl) (by kernel_rfl) ?_
    try simp only [Act.put]
    repeat (first
      | go_big_quiet_step (first
        | (go_at_call 77; exact quiet_below_same (HMk.out _))))
    refine wpQuiet_nil ?_
    intro w3 hb3
    have hp3 := HW.out.1.below hb3
    have hbr := below_next HW.out.2 hb3
    go_wp2
    go_ret
    exact ⟨ret_bool E.out.symm, hbr⟩
  cases f1 : (xa != 0)
  rotate_left
  · have E := Lib.hid (show Y.passing c = false by rw [HE.out, HH.out, eq_not_ne xa, f1]; simp)
    clear HH HE
    go_enter Tryd.func44, Tryd.ntmps44
    go_wp2
    skip
    refine region_below (by kernel_rfl) (by kernel_rfl) ?_
    try simp only [Act.put]
    repeat (first
      | go_big_quiet_step (first
        | (go_at_call 77; exact quiet_below_same (HMk.out _))))
    refine wpQuiet_nil ?_
    intro w3 hb3
    have hp3 := HW.out.1.below hb3
    have hbr := below_next HW.out.2 hb3
    go_wp2
    go_ret
    exact ⟨ret_bool E.out.symm, hbr⟩
  cases f2 : (xb != 9)
  rotate_left
  · have E := Lib.hid (show Y.passing c = false by rw [HE.out, HH.out, eq_not_ne xb, f2]; simp)
    clear HH HE
    go_enter Tryd.func44, Tryd.ntmps44
    go_wp2
    skip
    refine region_below (by kernel_rfl) (by kernel_rfl) ?_
    try simp only [Act.put]
    repeat (first
      | go_big_quiet_step (first
        | (go_at_call 77; exact quiet_below_same (HMk.out _))))
    refine wpQuiet_nil ?_
    intro w3 hb3
    have hp3 := HW.out.1.below hb3
    have hbr := below_next HW.out.2 hb3
    go_wp2
    go_ret
    exact ⟨ret_bool E.out.symm, hbr⟩
  have E := Lib.hid (show Y.passing c = (U (bAnd (K.by c s 0) (S.of c 0 1)) != 0) by rw [HE.out, HH.out, eq_not_ne x0, eq_not_ne xa, eq_not_ne xb, f0, f1, f2]; simp)
  clear HH HE
  go_enter Tryd.func44, Tryd.ntmps44
  go_wp2
  skip
  refine region_below (by kernel_rfl) (by kernel_rfl) ?_
  try simp only [Act.put]
  repeat (first
    | go_big_quiet_step (first
      | (go_at_call 77; exact quiet_below_same (HMk.out _))))
  refine wpQuiet_nil ?_
  intro w3 hb3
  have hp3 := HW.out.1.below hb3
  have hbr := below_next HW.out.2 hb3
  have c78' := hp3.cell 78 (by decide) .u8 rfl
  have c78w : w3.cell? ⟨w.heap.size, 78, none⟩ = some (.int .u8 0) := by rw [hb3.cell (p := ⟨w.heap.size, 78, none⟩) hblt]; exact c78
  have hlt3 : w.heap.size < w3.heap.size := hp3.lt
  have HT3 := Lib.hid (HT.out _ hbr)
  have HP3 := Lib.hid (And.intro hp3 hbr)
  have HBd := Lib.hid (pos_bd HC.out)
  clear c78' hp3 hbr hb3 c83 c78 y0 ya yb e1 e2 ba bb bs hq1' hq2' hblt
  go_wp2
  refine region_below (by kernel_rfl) (by kernel_rfl) ?_
  try simp only [Act.put]
  repeat (first
    | (go_big_quiet_want; refine quiet_load_posIn _ rfl ⟨_, _, c, rfl, HP3.out.1, ?_⟩; simp only [Act.put, List.setIfInBounds_toArray, List.set_cons_succ, List.set_cons_zero]; go_big_quiet_on)
    | go_big_quiet_step (first
      | (go_at_call 78; exact quiet_below (by_any c (s : Int) 0 _ HBd.out (tb_grow HT3.out)))
      | (go_at_call 51; exact quiet_below (of_any c 0 1 _ HBd.out))))
  refine wpQuiet_nil ?_
  intro w4 hb4
  have hbr := below_next HP3.out.2 hb4
  clear hb4
  go_wp2
  go_ret
  exact ⟨ret_bool E.out.symm, hbr⟩

set_option maxRecDepth 100000 in
set_option maxHeartbeats 8000000 in
theorem vpassing_1 (c : Nat → Int) (w : World) (hc : PosOk c) (hT : Tb w) (ht : c 78 = 1) (h64 : c 83 < 64) :
    Calls Tryd.prog 44 #[.agg (posC c)] w fun e w' => e = .returned (.bool (Y.passing c)) ∧ Below w.heap.size w w' := by
  have hp := PosIn.new w 70 c
  have c83 := hp.cell 83 (by decide) .i8 rfl
  obtain ⟨i0, i1⟩ := pos_i8z hc (i := 83) (by decide) rfl
  by_cases hf : c 83 < 0
  · have d : decide (c 83 < 0) = true := decide_eq_true hf
    have E := Lib.hid (show Y.passing c = true by unfold Y.passing; rw [d]; rfl)
    clear hT hc
    go_enter Tryd.func44, Tryd.ntmps44
    go_wp2
    go_ret
    exact ⟨ret_bool E.out.symm, (Below.refl _ _).alloc (Nat.le_refl _) _⟩
  obtain ⟨s, hs⟩ : ∃ s : Nat, c 83 = (s : Int) := ⟨(c 83).toNat, by omega⟩
  have c78 := hp.cell 78 (by decide) .u8 rfl
  rw [ht] at c78
  rw [hs] at c83 h64
  have hs64 : s < 64 := by omega
  have dfn : decide ((s : Int) < 0) = false := decide_eq_false (by omega)
  obtain ⟨q, hq⟩ : ∃ q : Nat, s / 8 = q := ⟨_, rfl⟩
  have hq1 : (s : Int).tdiv 8 = (q : Int) := by rw [Int.tdiv_eq_ediv_of_nonneg (by omega)]; omega
  have hq2 : (s : Int) / 8 = (q : Int) := by omega
  have y0 := hp.bd s hs64
  obtain ⟨x0, hx0⟩ : ∃ x, c (1 + s) = x := ⟨_, rfl⟩
  rw [hx0] at y0
  have HMk : Hid (∀ w, Calls Tryd.prog 77 #[.int .u8 0, .int .u8 1] w fun e w' => e = .returned (.int .u8 1) ∧ w = w') := Lib.hid (fun w => make_any 0 1 w (by decide) (by decide) (by decide) (by decide))
  have HE := Lib.hid (show Y.passing c = Y.passAt c s by
    unfold Y.passing
    rw [decide_eq_false hf, hs, Int.toNat_natCast]
    rfl)
  have hb0 : Below w.heap.size w (w.alloc (.cells (posC c) 70)) := (Below.refl _ _).alloc (Nat.le_refl _) _
  have HW := Lib.hid (And.intro hp hb0)
  have HT := Lib.hid (fun W (hb : Below w.heap.size w W) => tb_below hT hb)
  have HC := Lib.hid hc
  have HX0 := Lib.hid hx0
  have HH : Hid (Y.passAt c s = (decide (s / 8 = 2) && (c (1 + s) == 0 && (c (1 + (s - 8)) == 0 && (c (1 + (s + 8)) == 1 && (U (bAnd (K.by c s 1) (S.of c 1 1)) != 0)))))) := Lib.hid (by
    unfold Y.passAt Y.passHit
    rw [if_pos ht, ht])
  have hsz : (w.alloc (.cells (posC c) 70)).heap.size = w.heap.size + 1 := World.size_alloc _ _
  have hblt : w.heap.size < (w.alloc (.cells (posC c) 70)).heap.size := by omega
  obtain ⟨W, hW⟩ : ∃ W, w.alloc (.cells (posC c) 70) = W := ⟨_, rfl⟩
  rw [hW] at c83 c78 y0 HW hblt
  clear hf hT hc hx0 hp hb0 ht i0 i1 hsz
  by_cases hr : q = 2
  rotate_left
  · have dr : ((q : Int) != 2) = true := by simp; omega
    have E := Lib.hid (show Y.passing c = false by rw [HE.out, HH.out, decide_eq_false (by omega), Bool.false_and])
    clear hr HH HE HX0
    go_enter Tryd.func44, Tryd.ntmps44
    go_wp2
    skip
    refine region_below (by kernel_rfl) (by kernel_rfl) ?_
    try simp only [Act.put]
    repeat (first
      | go_big_quiet_step (first
        | (go_at_call 77; exact quiet_below_same (HMk.out _))))
    refine wpQuiet_nil ?_
    intro w3 hb3
    have hp3 := HW.out.1.below hb3
    have hbr := below_next HW.out.2 hb3
    go_wp2
    go_ret
    exact ⟨ret_bool E.out.symm, hbr⟩
  subst hr
  obtain ⟨a, ha⟩ : ∃ a : Nat, s + 8 = a := ⟨_, rfl⟩
  obtain ⟨b, hb⟩ : ∃ b : Nat, s - 8 = b := ⟨_, rfl⟩
  have ya := HW.out.1.bd a (by omega)
  have yb := HW.out.1.bd b (by omega)
  rw [hq, ha, hb] at HH
  have e1 : IntKind.i64.wrap ((s : Int) + -8) = (b : Int) := by rw [IntKind.wrap_i64]; omega
  have e2 : IntKind.i64.wrap ((s : Int) - -8) = (a : Int) := by rw [IntKind.wrap_i64]; omega
  have e3 : IntKind.i64.wrap ((s : Int) + 8) = (a : Int) := by rw [IntKind.wrap_i64]; omega
  have ba : 0 ≤ (a : Int) ∧ (a : Int) < 64 := by omega
  have bb : 0 ≤ (b : Int) ∧ (b : Int) < 64 := by omega
  have bs : 0 ≤ (s : Int) ∧ (s : Int) < 64 := by omega
  obtain ⟨xa, hxa⟩ : ∃ x, c (1 + a) = x := ⟨_, rfl⟩
  obtain ⟨xb, hxb⟩ : ∃ x, c (1 + b) = x := ⟨_, rfl⟩
  rw [hxa] at ya HH
  rw [hxb] at yb HH
  rw [HX0.out] at HH
  have hq1' : (s : Int).tdiv 8 = 2 := hq1
  have hq2' : (s : Int) / 8 = 2 := hq2
  clear hq1 hq2 hq HX0 hxa hxb ha hb
  cases f0 : (x0 != 0)
  rotate_left
  · have E := Lib.hid (show Y.passing c = false by rw [HE.out, HH.out, eq_not_ne x0, f0]; simp)
    clear HH HE
    go_enter Tryd.func44, Tryd.ntmps44
    go_wp2
    skip
    refine region_below (by kernel_rfl) (by kernel_rfl) ?_
    try simp only [Act.put]
    repeat (first
      | go_big_quiet_step (first
        | (go_at_call 77; exact quiet_below_same (HMk.out _))))
    refine wpQuiet_nil ?_
    intro w3 hb3
    have hp3 := HW.out.1.below hb3
    have hbr := below_next HW.out.2 hb3
    go_wp2
    go_ret
    exact ⟨ret_bool E.out.symm, hbr⟩
  cases f1 : (xb != 0)
  rotate_left
  · have E := Lib.hid (show Y.passing c = false by rw [HE.out, HH.out, eq_not_ne xb, f1]; simp)
    clear HH HE
    go_enter Tryd.func44, Tryd.ntmps44
    go_wp2
    skip
    refine region_below (by kernel_rfl) (by kernel_rfl) ?_
    try simp only [Act.put]
    repeat (first
      | go_big_quiet_step (first
        | (go_at_call 77; exact quiet_below_same (HMk.out _))))
    refine wpQuiet_nil ?_
    intro w3 hb3
    have hp3 := HW.out.1.below hb3
    have hbr := below_next HW.out.2 hb3
    go_wp2
    go_ret
    exact ⟨ret_bool E.out.symm, hbr⟩
  cases f2 : (xa != 1)
  rotate_left
  · have E := Lib.hid (show Y.passing c = false by rw [HE.out, HH.out, eq_not_ne xa, f2]; simp)
    clear HH HE
    go_enter Tryd.func44, Tryd.ntmps44
    go_wp2
    skip
    refine region_below (by kernel_rfl) (by kernel_rfl) ?_
    try simp only [Act.put]
    repeat (first
      | go_big_quiet_step (first
        | (go_at_call 77; exact quiet_below_same (HMk.out _))))
    refine wpQuiet_nil ?_
    intro w3 hb3
    have hp3 := HW.out.1.below hb3
    have hbr := below_next HW.out.2 hb3
    go_wp2
    go_ret
    exact ⟨ret_bool E.out.symm, hbr⟩
  have E := Lib.hid (show Y.passing c = (U (bAnd (K.by c s 1) (S.of c 1 1)) != 0) by rw [HE.out, HH.out, eq_not_ne x0, eq_not_ne xa, eq_not_ne xb, f0, f1, f2]; simp)
  clear HH HE
  go_enter Tryd.func44, Tryd.ntmps44
  go_wp2
  skip
  refine region_below (by kernel_rfl) (by kernel_rfl) ?_
  try simp only [Act.put]
  repeat (first
    | go_big_quiet_step (first
      | (go_at_call 77; exact quiet_below_same (HMk.out _))))
  refine wpQuiet_nil ?_
  intro w3 hb3
  have hp3 := HW.out.1.below hb3
  have hbr := below_next HW.out.2 hb3
  have c78' := hp3.cell 78 (by decide) .u8 rfl
  have c78w : w3.cell? ⟨w.heap.size, 78, none⟩ = some (.int .u8 1) := by rw [hb3.cell (p := ⟨w.heap.size, 78, none⟩) hblt]; exact c78
  have hlt3 : w.heap.size < w3.heap.size := hp3.lt
  have HT3 := Lib.hid (HT.out _ hbr)
  have HP3 := Lib.hid (And.intro hp3 hbr)
  have HBd := Lib.hid (pos_bd HC.out)
  clear c78' hp3 hbr hb3 c83 c78 y0 ya yb e1 e2 ba bb bs hq1' hq2' hblt e3
  go_wp2
  refine region_below (by kernel_rfl) (by kernel_rfl) ?_
  try simp only [Act.put]
  repeat (first
    | (go_big_quiet_want; refine quiet_load_posIn _ rfl ⟨_, _, c, rfl, HP3.out.1, ?_⟩; simp only [Act.put, List.setIfInBounds_toArray, List.set_cons_succ, List.set_cons_zero]; go_big_quiet_on)
    | go_big_quiet_step (first
      | (go_at_call 78; exact quiet_below (by_any c (s : Int) 1 _ HBd.out (tb_grow HT3.out)))
      | (go_at_call 51; exact quiet_below (of_any c 1 1 _ HBd.out))))
  refine wpQuiet_nil ?_
  intro w4 hb4
  have hbr := below_next HP3.out.2 hb4
  clear hb4
  go_wp2
  go_ret
  exact ⟨ret_bool E.out.symm, hbr⟩

set_option maxRecDepth 100000 in
set_option maxHeartbeats 8000000 in
theorem vcheck_0 (c : Nat → Int) (w : World) (hc : PosOk c) (hT : Tb w) (ht : c 78 = 0) :
    Calls Tryd.prog 68 #[.agg (posC c)] w fun e w' => e = .returned (.bool (Y.check c)) ∧ Below w.heap.size w w' := by
  have hp := PosIn.new w 70 c
  have hb0 : Below w.heap.size w (w.alloc (.cells (posC c) 70)) := (Below.refl _ _).alloc (Nat.le_refl _) _
  obtain ⟨v0, v1⟩ := pos_u8 hc (i := 0) (by decide) rfl
  obtain ⟨k1, hk1⟩ : ∃ k, K.check c 0 = k := ⟨_, rfl⟩
  obtain ⟨k2, hk2⟩ : ∃ k, K.check c 1 = k := ⟨_, rfl⟩
  obtain ⟨n, hn⟩ : ∃ n, Y.cnt c 0 = n := ⟨_, rfl⟩
  have H1 : Hid (∀ w, Tb w → Calls Tryd.prog 104 #[.agg (posC c), .int .u8 0] w fun e w' => e = .returned (.bool k1) ∧ Below w.heap.size w w') := Lib.hid (fun w h => by rw [← hk1]; exact check_any c 0 w (pos_bd hc) h v0 (by decide))
  have H2 : Hid (∀ w, Tb w → Calls Tryd.prog 104 #[.agg (posC c), .int .u8 1] w fun e w' => e = .returned (.bool k2) ∧ Below w.heap.size w w') := Lib.hid (fun w h => by rw [← hk2]; exact check_any c 1 w (pos_bd hc) h v0 (by decide))
  have HN : Hid (∀ w, Calls Tryd.prog 100 #[.agg (posC c), .int .u8 0, .int .u8 6] w fun e w' => e = .returned (.int .i64 (n : Int)) ∧ Below w.heap.size w w') := Lib.hid (fun w => by rw [← hn]; exact vcount_any c 0 w hc (by decide) (by decide))
  have HE := Lib.hid (show Y.check c = (!(c 0 == 8 && k1) && ((c 0 == 3 && n == 0) || !k2)) by
    unfold Y.check Y.over
    rw [ht, hk1, hn, show (1 : Int) - 0 = 1 from rfl, hk2])
  have c0 := hp.cell 0 (by decide) .u8 rfl
  have c78 := hp.cell 78 (by decide) .u8 rfl
  rw [ht] at c78
  have HT := Lib.hid (fun W (hb : Below w.heap.size w W) => tb_below hT hb)
  have HT0 := Lib.hid ht
  obtain ⟨W, hW⟩ : ∃ W, w.alloc (.cells (posC c) 70) = W := ⟨_, rfl⟩
  rw [hW] at c0 c78 hp hb0
  have HW := Lib.hid (And.intro hp hb0)
  clear hk1 hk2 hn hc hT ht v0 v1 hp hb0
  by_cases h8 : c 0 = 8
  · have e8 : (c 0 == 8) = true := by rw [h8]; rfl
    have e3 : (c 0 == 3) = false := by rw [h8]; rfl
    rw [e8, e3] at HE
    clear h8
    cases k1
    · cases k2
      all_goals
        go_enter Tryd.func68, Tryd.ntmps68
        skip
        go_wp2_with (first
          | (go_at_call 104; refine (H2.out _ (HT.out _ hbr2)).mono ?_; rintro e w3 ⟨rfl, hb3⟩; have hbr3 := below_next hbr2 hb3)
          | (go_at_call 104; refine (H1.out _ (HT.out _ HW.out.2)).mono ?_; rintro e w2 ⟨rfl, hb2⟩; have hp2 := HW.out.1.below hb2; have hbr2 := below_next HW.out.2 hb2; have c0' := hp2.cell 0 (by decide) .u8 rfl; have c78' := hp2.cell 78 (by decide) .u8 rfl; rw [HT0.out] at c78')
          | ((with_reducible refine wp_load_posIn rfl _ rfl ?_); refine ⟨_, _, c, rfl, hp2, ?_⟩) | ((with_reducible refine wp_load_posIn rfl _ rfl ?_); refine ⟨_, _, c, rfl, HW.out.1, ?_⟩))
        go_ret
        exact ⟨ret_bool (HE.out.trans (by rfl)).symm, hbr3⟩
    · go_enter Tryd.func68, Tryd.ntmps68
      skip
      go_wp2_with (first
        | (go_at_call 104; refine (H1.out _ (HT.out _ HW.out.2)).mono ?_; rintro e w2 ⟨rfl, hb2⟩; have hbr2 := below_next HW.out.2 hb2)
        | ((with_reducible refine wp_load_posIn rfl _ rfl ?_); refine ⟨_, _, c, rfl, HW.out.1, ?_⟩))
      go_ret
      exact ⟨ret_bool (HE.out.trans (by rfl)).symm, hbr2⟩
  · have e8 : (c 0 == 8) = false := by simpa using h8
    rw [e8] at HE
    clear h8
    cases e3 : (c 0 == 3)
    · rw [e3] at HE
      cases k2
      all_goals
        go_enter Tryd.func68, Tryd.ntmps68
        skip
        go_wp2_with (first
          | (go_at_call 104; refine (H2.out _ (HT.out _ HW.out.2)).mono ?_; rintro e w2 ⟨rfl, hb2⟩; have hbr2 := below_next HW.out.2 hb2)
          | ((with_reducible refine wp_load_posIn rfl _ rfl ?_); refine ⟨_, _, c, rfl, HW.out.1, ?_⟩))
        go_ret
        exact ⟨ret_bool (HE.out.trans (by rfl)).symm, hbr2⟩
    · rw [e3] at HE
      by_cases hn : n = 0
      · subst hn
        go_enter Tryd.func68, Tryd.ntmps68
        skip
        go_wp2_with (first
          | (go_at_call 100; refine (HN.out _).mono ?_; rintro e w2 ⟨rfl, hb2⟩; have hbr2 := below_next HW.out.2 hb2)
          | ((with_reducible refine wp_load_rowG rfl 70 _ rfl Tryd.underlying70 rfl ?_); refine ⟨w.heap.size, _, posC c, rfl, PosIn.row HW.out.1, Tryd.info_Ask.trans (by rw [posC_size]), ?_⟩))
        go_ret
        exact ⟨ret_bool (HE.out.trans (by rfl)).symm, hbr2⟩
      · have en : (n == 0) = false := by simpa using hn
        have en' : ((n : Int) == 0) = false := by simpa using hn
        rw [en] at HE
        clear hn en
        cases k2
        all_goals
          go_enter Tryd.func68, Tryd.ntmps68
          skip
          go_wp2_with (first
            | (go_at_call 100; refine (HN.out _).mono ?_; rintro e w2 ⟨rfl, hb2⟩; have hp2 := HW.out.1.below hb2; have hbr2 := below_next HW.out.2 hb2; have c0' := hp2.cell 0 (by decide) .u8 rfl; have c78' := hp2.cell 78 (by decide) .u8 rfl; rw [HT0.out] at c78')
            | (go_at_call 104; refine (H2.out _ (HT.out _ hbr2)).mono ?_; rintro e w3 ⟨rfl, hb3⟩; have hbr3 := below_next hbr2 hb3)
            | ((with_reducible refine wp_load_rowG rfl 70 _ rfl Tryd.underlying70 rfl ?_); refine ⟨w.heap.size, _, posC c, rfl, PosIn.row HW.out.1, Tryd.info_Ask.trans (by rw [posC_size]), ?_⟩) | ((with_reducible refine wp_load_posIn rfl _ rfl ?_); refine ⟨_, _, c, rfl, hp2, ?_⟩))
          go_ret
          exact ⟨ret_bool (HE.out.trans (by rfl)).symm, hbr3⟩

set_option maxRecDepth 100000 in
set_option maxHeartbeats 8000000 in
theorem vcheck_1 (c : Nat → Int) (w : World) (hc : PosOk c) (hT : Tb w) (ht : c 78 = 1) :
    Calls Tryd.prog 68 #[.agg (posC c)] w fun e w' => e = .returned (.bool (Y.check c)) ∧ Below w.heap.size w w' := by
  have hp := PosIn.new w 70 c
  have hb0 : Below w.heap.size w (w.alloc (.cells (posC c) 70)) := (Below.refl _ _).alloc (Nat.le_refl _) _
  obtain ⟨v0, v1⟩ := pos_u8 hc (i := 0) (by decide) rfl
  obtain ⟨k1, hk1⟩ : ∃ k, K.check c 1 = k := ⟨_, rfl⟩
  obtain ⟨k2, hk2⟩ : ∃ k, K.check c 0 = k := ⟨_, rfl⟩
  obtain ⟨n, hn⟩ : ∃ n, Y.cnt c 1 = n := ⟨_, rfl⟩
  have H1 : Hid (∀ w, Tb w → Calls Tryd.prog 104 #[.agg (posC c), .int .u8 1] w fun e w' => e = .returned (.bool k1) ∧ Below w.heap.size w w') := Lib.hid (fun w h => by rw [← hk1]; exact check_any c 1 w (pos_bd hc) h v0 (by decide))
  have H2 : Hid (∀ w, Tb w → Calls Tryd.prog 104 #[.agg (posC c), .int .u8 0] w fun e w' => e = .returned (.bool k2) ∧ Below w.heap.size w w') := Lib.hid (fun w h => by rw [← hk2]; exact check_any c 0 w (pos_bd hc) h v0 (by decide))
  have HN : Hid (∀ w, Calls Tryd.prog 100 #[.agg (posC c), .int .u8 1, .int .u8 6] w fun e w' => e = .returned (.int .i64 (n : Int)) ∧ Below w.heap.size w w') := Lib.hid (fun w => by rw [← hn]; exact vcount_any c 1 w hc (by decide) (by decide))
  have HE := Lib.hid (show Y.check c = (!(c 0 == 8 && k1) && ((c 0 == 3 && n == 0) || !k2)) by
    unfold Y.check Y.over
    rw [ht, hk1, hn, show (1 : Int) - 1 = 0 from rfl, hk2])
  have c0 := hp.cell 0 (by decide) .u8 rfl
  have c78 := hp.cell 78 (by decide) .u8 rfl
  rw [ht] at c78
  have HT := Lib.hid (fun W (hb : Below w.heap.size w W) => tb_below hT hb)
  have HT0 := Lib.hid ht
  obtain ⟨W, hW⟩ : ∃ W, w.alloc (.cells (posC c) 70) = W := ⟨_, rfl⟩
  rw [hW] at c0 c78 hp hb0
  have HW := Lib.hid (And.intro hp hb0)
  clear hk1 hk2 hn hc hT ht v0 v1 hp hb0
  by_cases h8 : c 0 = 8
  · have e8 : (c 0 == 8) = true := by rw [h8]; rfl
    have e3 : (c 0 == 3) = false := by rw [h8]; rfl
    rw [e8, e3] at HE
    clear h8
    cases k1
    · cases k2
      all_goals
        go_enter Tryd.func68, Tryd.ntmps68
        skip
        go_wp2_with (first
          | (go_at_call 104; refine (H2.out _ (HT.out _ hbr2)).mono ?_; rintro e w3 ⟨rfl, hb3⟩; have hbr3 := below_next hbr2 hb3)
          | (go_at_call 104; refine (H1.out _ (HT.out _ HW.out.2)).mono ?_; rintro e w2 ⟨rfl, hb2⟩; have hp2 := HW.out.1.below hb2; have hbr2 := below_next HW.out.2 hb2; have c0' := hp2.cell 0 (by decide) .u8 rfl; have c78' := hp2.cell 78 (by decide) .u8 rfl; rw [HT0.out] at c78')
          | ((with_reducible refine wp_load_posIn rfl _ rfl ?_); refine ⟨_, _, c, rfl, hp2, ?_⟩) | ((with_reducible refine wp_load_posIn rfl _ rfl ?_); refine ⟨_, _, c, rfl, HW.out.1, ?_⟩))
        go_ret
        exact ⟨ret_bool (HE.out.trans (by rfl)).symm, hbr3⟩
    · go_enter Tryd.func68, Tryd.ntmps68
      skip
      go_wp2_with (first
        | (go_at_call 104; refine (H1.out _ (HT.out _ HW.out.2)).mono ?_; rintro e w2 ⟨rfl, hb2⟩; have hbr2 := below_next HW.out.2 hb2)
        | ((with_reducible refine wp_load_posIn rfl _ rfl ?_); refine ⟨_, _, c, rfl, HW.out.1, ?_⟩))
      go_ret
      exact ⟨ret_bool (HE.out.trans (by rfl)).symm, hbr2⟩
  · have e8 : (c 0 == 8) = false := by simpa using h8
    rw [e8] at HE
    clear h8
    cases e3 : (c 0 == 3)
    · rw [e3] at HE
      cases k2
      all_goals
        go_enter Tryd.func68, Tryd.ntmps68
        skip
        go_wp2_with (first
          | (go_at_call 104; refine (H2.out _ (HT.out _ HW.out.2)).mono ?_; rintro e w2 ⟨rfl, hb2⟩; have hbr2 := below_next HW.out.2 hb2)
          | ((with_reducible refine wp_load_posIn rfl _ rfl ?_); refine ⟨_, _, c, rfl, HW.out.1, ?_⟩))
        go_ret
        exact ⟨ret_bool (HE.out.trans (by rfl)).symm, hbr2⟩
    · rw [e3] at HE
      by_cases hn : n = 0
      · subst hn
        go_enter Tryd.func68, Tryd.ntmps68
        skip
        go_wp2_with (first
          | (go_at_call 100; refine (HN.out _).mono ?_; rintro e w2 ⟨rfl, hb2⟩; have hbr2 := below_next HW.out.2 hb2)
          | ((with_reducible refine wp_load_rowG rfl 70 _ rfl Tryd.underlying70 rfl ?_); refine ⟨w.heap.size, _, posC c, rfl, PosIn.row HW.out.1, Tryd.info_Ask.trans (by rw [posC_size]), ?_⟩))
        go_ret
        exact ⟨ret_bool (HE.out.trans (by rfl)).symm, hbr2⟩
      · have en : (n == 0) = false := by simpa using hn
        have en' : ((n : Int) == 0) = false := by simpa using hn
        rw [en] at HE
        clear hn en
        cases k2
        all_goals
          go_enter Tryd.func68, Tryd.ntmps68
          skip
          go_wp2_with (first
            | (go_at_call 100; refine (HN.out _).mono ?_; rintro e w2 ⟨rfl, hb2⟩; have hp2 := HW.out.1.below hb2; have hbr2 := below_next HW.out.2 hb2; have c0' := hp2.cell 0 (by decide) .u8 rfl; have c78' := hp2.cell 78 (by decide) .u8 rfl; rw [HT0.out] at c78')
            | (go_at_call 104; refine (H2.out _ (HT.out _ hbr2)).mono ?_; rintro e w3 ⟨rfl, hb3⟩; have hbr3 := below_next hbr2 hb3)
            | ((with_reducible refine wp_load_rowG rfl 70 _ rfl Tryd.underlying70 rfl ?_); refine ⟨w.heap.size, _, posC c, rfl, PosIn.row HW.out.1, Tryd.info_Ask.trans (by rw [posC_size]), ?_⟩) | ((with_reducible refine wp_load_posIn rfl _ rfl ?_); refine ⟨_, _, c, rfl, hp2, ?_⟩))
          go_ret
          exact ⟨ret_bool (HE.out.trans (by rfl)).symm, hbr3⟩

theorem vpassing_any (c : Nat → Int) (w : World) (hc : PosOk c) (hT : Tb w) (ht : c 78 = 0 ∨ c 78 = 1) (h64 : c 83 < 64) :
    Calls Tryd.prog 44 #[.agg (posC c)] w fun e w' => e = .returned (.bool (Y.passing c)) ∧ Below w.heap.size w w' := by
  rcases ht with h | h
  · exact vpassing_0 c w hc hT h h64
  · exact vpassing_1 c w hc hT h h64
theorem vcheck_any (c : Nat → Int) (w : World) (hc : PosOk c) (hT : Tb w) (ht : c 78 = 0 ∨ c 78 = 1) :
    Calls Tryd.prog 68 #[.agg (posC c)] w fun e w' => e = .returned (.bool (Y.check c)) ∧ Below w.heap.size w w' := by
  rcases ht with h | h
  · exact vcheck_0 c w hc hT h
  · exact vcheck_1 c w hc hT h
end Go.Proofs.YtlphjjekamhnlaaDoor
