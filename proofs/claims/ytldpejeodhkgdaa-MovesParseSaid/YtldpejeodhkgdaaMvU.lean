/- The document's Text of moves. -/
import Derived.Test.YtldpejeodhkgdaaMvR
import Derived.Test.YtldpejeodhkgdaaMvW
namespace Go.Proofs.Ytldpejeodhkgdaa
open Go.RowKit Go.Sort
attribute [local go_sem] Oper.semAt_some

theorem d11square_any (s : Int) (w : World) : Calls Try.prog 28 #[.int .i8 s] w fun e w' => e = .returned (.bool (N.sq s)) ∧ w = w' := by
  have HE := Lib.hid (show N.sq s = (decide (0 ≤ s) && decide (s < 64)) from rfl)
  cases h0 : decide (0 ≤ s)
  · have E := Lib.hid (show N.sq s = false by rw [HE.out, h0]; rfl)
    go_enter Try.func28, Try.ntmps28
    go_wp2
    go_ret
    exact ⟨by rw [E.out]; rfl, rfl⟩
  · have E := Lib.hid (show N.sq s = decide (s < 64) by rw [HE.out, h0]; rfl)
    go_enter Try.func28, Try.ntmps28
    go_wp2
    go_ret
    exact ⟨by rw [E.out]; rfl, rfl⟩
theorem d5up_any (k : Nat) (w : World) (hk : 1 ≤ k ∧ k ≤ 5) : Calls Try.prog 29 #[.int .u8 (k : Int)] w fun e w' => e = .returned (.string ⟨#[N.upB k]⟩) ∧ Below w.heap.size w w' := by
  have := r5letter_walk (k : Int) w (by omega)
  rwa [(N.pieces_up ⟨k, by omega⟩ hk.1).2.1] at this
theorem d5low_any (k : Nat) (w : World) (hk : 2 ≤ k ∧ k ≤ 6) : Calls Try.prog 29 #[.int .u8 ((8 + k : Nat) : Int)] w fun e w' => e = .returned (.string ⟨(N.lowB k).toArray⟩) ∧ Below w.heap.size w w' := by
  have := r5letter_walk ((8 + k : Nat) : Int) w (by omega)
  rwa [(N.pieces_low ⟨k, by omega⟩ hk.1).2.1] at this

set_option maxRecDepth 100000 in
set_option maxHeartbeats 4000000 in
/-- What is refused at once. -/
theorem d11TextA (c : Nat → Int) (f g x y : Int) (z : Bool) (hc : PosOk c) (h : ¬ (N.known c ∧ ((0 ≤ f ∧ f < 64) ∧ (0 ≤ g ∧ g < 64)))) : ∃ s, N.TextEnd c f g x y z s ∧ ∀ w, Calls Try.prog 15 #[.agg (posC c), .agg (movC f g x y z)] w fun e w' => e = .returned (.string s) ∧ Below w.heap.size w w' := by
  have HQf : Hid (∀ W, Calls Try.prog 28 #[.int .i8 f] W fun e w' => e = .returned (.bool (N.sq f)) ∧ W = w') := Lib.hid (fun W => d11square_any f W)
  have HQg : Hid (∀ W, Calls Try.prog 28 #[.int .i8 g] W fun e w' => e = .returned (.bool (N.sq g)) ∧ W = w') := Lib.hid (fun W => d11square_any g W)
  have HN := Lib.hid (N.text_no (y := y) (z := z) (x := x) (fun h' => h ⟨h'.1, h'.2.1⟩))
  have i1 := N.kn_iff hc
  unfold N.kn at i1
  rw [Bool.and_eq_true, decide_eq_true_eq, decide_eq_true_eq] at i1
  have i2 := N.sq_iff (s := f)
  have i3 := N.sq_iff (s := g)
  by_cases k0 : 8 < c 0
  · have d0 : decide (8 < c 0) = true := by simpa using k0
    refine ⟨⟨#[]⟩, HN.out, fun w => ?_⟩
    clear i1 i2 i3 h k0
    have hP := PMv.start w c (movC f g x y z)
    have m0 := hP.m.cell 0
    rw [show (movC f g x y z)[0]? = some (.int .i8 f) from rfl] at m0
    have m1 := hP.m.cell 1
    rw [show (movC f g x y z)[1]? = some (.int .i8 g) from rfl] at m1
    have m2 := hP.m.cell 2
    rw [show (movC f g x y z)[2]? = some (.int .u8 x) from rfl] at m2
    have m3 := hP.m.cell 3
    rw [show (movC f g x y z)[3]? = some (.int .u8 y) from rfl] at m3
    have m4 := hP.m.cell 4
    rw [show (movC f g x y z)[4]? = some (.bool z) from rfl] at m4
    have c0 := hP.p.cell (i := 0) (by decide)
    have c78 := hP.p.cell (i := 78) (by decide)
    rw [show pk 0 = .u8 from rfl] at c0
    rw [show pk 78 = .u8 from rfl] at c78
    have H0 := Lib.hid hP
    clear hP
    go_enter Try.func15, Try.ntmps15
    go_wp2_with (first
      | (go_at_call 28; (with_reducible refine (HQf.out _).mono ?_); rintro e w2 ⟨rfl, rfl⟩)
      | (go_at_call 28; (with_reducible refine (HQg.out _).mono ?_); rintro e w2 ⟨rfl, rfl⟩))
    go_ret
    exact ⟨rfl, H0.out.below⟩
  have d0 : decide (8 < c 0) = false := by simpa using k0
  by_cases k1 : 1 < c 78
  · have d1 : decide (1 < c 78) = true := by simpa using k1
    refine ⟨⟨#[]⟩, HN.out, fun w => ?_⟩
    clear i1 i2 i3 h k0 k1
    have hP := PMv.start w c (movC f g x y z)
    have m0 := hP.m.cell 0
    rw [show (movC f g x y z)[0]? = some (.int .i8 f) from rfl] at m0
    have m1 := hP.m.cell 1
    rw [show (movC f g x y z)[1]? = some (.int .i8 g) from rfl] at m1
    have m2 := hP.m.cell 2
    rw [show (movC f g x y z)[2]? = some (.int .u8 x) from rfl] at m2
    have m3 := hP.m.cell 3
    rw [show (movC f g x y z)[3]? = some (.int .u8 y) from rfl] at m3
    have m4 := hP.m.cell 4
    rw [show (movC f g x y z)[4]? = some (.bool z) from rfl] at m4
    have c0 := hP.p.cell (i := 0) (by decide)
    have c78 := hP.p.cell (i := 78) (by decide)
    rw [show pk 0 = .u8 from rfl] at c0
    rw [show pk 78 = .u8 from rfl] at c78
    have H0 := Lib.hid hP
    clear hP
    go_enter Try.func15, Try.ntmps15
    go_wp2_with (first
      | (go_at_call 28; (with_reducible refine (HQf.out _).mono ?_); rintro e w2 ⟨rfl, rfl⟩)
      | (go_at_call 28; (with_reducible refine (HQg.out _).mono ?_); rintro e w2 ⟨rfl, rfl⟩))
    go_ret
    exact ⟨rfl, H0.out.below⟩
  have d1 : decide (1 < c 78) = false := by simpa using k1
  cases k2 : N.sq f
  · rw [k2] at HQf
    refine ⟨⟨#[]⟩, HN.out, fun w => ?_⟩
    clear i1 i2 i3 h k0 k1 k2
    have hP := PMv.start w c (movC f g x y z)
    have m0 := hP.m.cell 0
    rw [show (movC f g x y z)[0]? = some (.int .i8 f) from rfl] at m0
    have m1 := hP.m.cell 1
    rw [show (movC f g x y z)[1]? = some (.int .i8 g) from rfl] at m1
    have m2 := hP.m.cell 2
    rw [show (movC f g x y z)[2]? = some (.int .u8 x) from rfl] at m2
    have m3 := hP.m.cell 3
    rw [show (movC f g x y z)[3]? = some (.int .u8 y) from rfl] at m3
    have m4 := hP.m.cell 4
    rw [show (movC f g x y z)[4]? = some (.bool z) from rfl] at m4
    have c0 := hP.p.cell (i := 0) (by decide)
    have c78 := hP.p.cell (i := 78) (by decide)
    rw [show pk 0 = .u8 from rfl] at c0
    rw [show pk 78 = .u8 from rfl] at c78
    have H0 := Lib.hid hP
    clear hP
    go_enter Try.func15, Try.ntmps15
    go_wp2_with (first
      | (go_at_call 28; (with_reducible refine (HQf.out _).mono ?_); rintro e w2 ⟨rfl, rfl⟩)
      | (go_at_call 28; (with_reducible refine (HQg.out _).mono ?_); rintro e w2 ⟨rfl, rfl⟩))
    go_ret
    exact ⟨rfl, H0.out.below⟩
  cases k3 : N.sq g
  · rw [k2] at HQf
    rw [k3] at HQg
    refine ⟨⟨#[]⟩, HN.out, fun w => ?_⟩
    clear i1 i2 i3 h k0 k1 k2 k3
    have hP := PMv.start w c (movC f g x y z)
    have m0 := hP.m.cell 0
    rw [show (movC f g x y z)[0]? = some (.int .i8 f) from rfl] at m0
    have m1 := hP.m.cell 1
    rw [show (movC f g x y z)[1]? = some (.int .i8 g) from rfl] at m1
    have m2 := hP.m.cell 2
    rw [show (movC f g x y z)[2]? = some (.int .u8 x) from rfl] at m2
    have m3 := hP.m.cell 3
    rw [show (movC f g x y z)[3]? = some (.int .u8 y) from rfl] at m3
    have m4 := hP.m.cell 4
    rw [show (movC f g x y z)[4]? = some (.bool z) from rfl] at m4
    have c0 := hP.p.cell (i := 0) (by decide)
    have c78 := hP.p.cell (i := 78) (by decide)
    rw [show pk 0 = .u8 from rfl] at c0
    rw [show pk 78 = .u8 from rfl] at c78
    have H0 := Lib.hid hP
    clear hP
    go_enter Try.func15, Try.ntmps15
    go_wp2_with (first
      | (go_at_call 28; (with_reducible refine (HQf.out _).mono ?_); rintro e w2 ⟨rfl, rfl⟩)
      | (go_at_call 28; (with_reducible refine (HQg.out _).mono ?_); rintro e w2 ⟨rfl, rfl⟩))
    go_ret
    exact ⟨rfl, H0.out.below⟩
  exact absurd ⟨i1.1 (by omega), i2.1 k2, i3.1 k3⟩ h

set_option maxRecDepth 100000 in
set_option maxHeartbeats 4000000 in
/-- Drops. -/
theorem d11TextB (c : Nat → Int) (f g x y : Int) (z : Bool) (hk : N.known c) (hf : 0 ≤ f ∧ f < 64) (hg : 0 ≤ g ∧ g < 64) (hy : 0 ≤ y) (hy0 : y ≠ 0) : ∃ s, N.TextEnd c f g x y z s ∧ ∀ w, Calls Try.prog 15 #[.agg (posC c), .agg (movC f g x y z)] w fun e w' => e = .returned (.string s) ∧ Below w.heap.size w w' := by
  have HQf : Hid (∀ W, Calls Try.prog 28 #[.int .i8 f] W fun e w' => e = .returned (.bool (N.sq f)) ∧ W = w') := Lib.hid (fun W => d11square_any f W)
  have HQg : Hid (∀ W, Calls Try.prog 28 #[.int .i8 g] W fun e w' => e = .returned (.bool (N.sq g)) ∧ W = w') := Lib.hid (fun W => d11square_any g W)
  have hk0 := hk.1
  have hk1 := hk.2
  have d0 : decide (8 < c 0) = false := by simp; omega
  have d1 : decide (1 < c 78) = false := by simp; omega
  clear hk0 hk1
  have k2 : N.sq f = true := N.sq_iff.2 hf
  have k3 : N.sq g = true := N.sq_iff.2 hg
  rw [k2] at HQf
  rw [k3] at HQg
  clear k2 k3
  have HN := Lib.hid (fun h => N.text_noDrop (c := c) (f := f) (g := g) (x := x) (z := z) hy0 h)
  have y0 : (y != 0) = true := by simpa using hy0
  by_cases h1 : y ≤ 5
  · have y5 : decide (5 < y) = false := by simp; omega
    by_cases h2 : f = g
    · subst h2
      by_cases h3 : x = 0
      · subst h3
        cases z
        · obtain ⟨b, rfl⟩ : ∃ b : Nat, f = (b : Int) := ⟨f.toNat, by omega⟩
          obtain ⟨k, rfl⟩ : ∃ k : Nat, y = (k : Int) := ⟨y.toNat, by omega⟩
          have HD := Lib.hid (N.text_drop (c := c) (f := (b : Int)) (g := (b : Int)) (x := 0) (y := (k : Int)) (z := false) hk hf hg (by omega) rfl rfl rfl)
          simp only [Int.toNat_natCast] at HD
          have HL : Hid (∀ W, Calls Try.prog 29 #[.int .u8 (k : Int)] W fun e w' => e = .returned (.string ⟨#[N.upB k]⟩) ∧ Below W.heap.size W w') := Lib.hid (fun W => d5up_any k W (by omega))
          have HT : Hid (∀ W, Calls Try.prog 14 #[.int .i64 (b : Int)] W fun e w' => e = .returned (.string (N.tx b)) ∧ Below W.heap.size W w') := Lib.hid (fun W => d02text_any b W (by omega))
          have E := Lib.hid (show ((⟨#[N.upB k]⟩ : ByteArray) ++ ⟨#[64]⟩) ++ N.tx b = N.drop k b from rfl)
          have S1 := Lib.hid (show (⟨#[N.upB k]⟩ : ByteArray).size + (⟨#[64]⟩ : ByteArray).size ≤ 9223372036854775807 from (by decide : 1 + 1 ≤ 9223372036854775807))
          have S2 := Lib.hid (show ((⟨#[N.upB k]⟩ : ByteArray) ++ ⟨#[64]⟩).size + (N.tx b).size ≤ 9223372036854775807 from (by decide : 2 + 2 ≤ 9223372036854775807))
          have wb := i8_i64 (show b < 64 by omega)
          clear hk hf hg hy hy0 h1
          obtain ⟨u, hu⟩ : ∃ u, (⟨#[N.upB k]⟩ : ByteArray) = u := ⟨_, rfl⟩
          obtain ⟨v, hv⟩ : ∃ v, N.tx b = v := ⟨_, rfl⟩
          rw [hu] at HL S1 S2 E
          rw [hv] at HT S2 E
          clear hu hv
          refine ⟨N.drop k b, HD.out, fun w => ?_⟩
          clear HN
          have hP := PMv.start w c (movC (b : Int) (b : Int) 0 (k : Int) false)
          have m0 := hP.m.cell 0
          rw [show (movC (b : Int) (b : Int) 0 (k : Int) false)[0]? = some (.int .i8 (b : Int)) from rfl] at m0
          have m1 := hP.m.cell 1
          rw [show (movC (b : Int) (b : Int) 0 (k : Int) false)[1]? = some (.int .i8 (b : Int)) from rfl] at m1
          have m2 := hP.m.cell 2
          rw [show (movC (b : Int) (b : Int) 0 (k : Int) false)[2]? = some (.int .u8 0) from rfl] at m2
          have m3 := hP.m.cell 3
          rw [show (movC (b : Int) (b : Int) 0 (k : Int) false)[3]? = some (.int .u8 (k : Int)) from rfl] at m3
          have m4 := hP.m.cell 4
          rw [show (movC (b : Int) (b : Int) 0 (k : Int) false)[4]? = some (.bool false) from rfl] at m4
          have c0 := hP.p.cell (i := 0) (by decide)
          have c78 := hP.p.cell (i := 78) (by decide)
          rw [show pk 0 = .u8 from rfl] at c0
          rw [show pk 78 = .u8 from rfl] at c78
          have H0 := Lib.hid hP
          clear hP
          go_enter Try.func15, Try.ntmps15
          go_upto_region 6 with (first
            | (go_at_call 28; (with_reducible refine (HQf.out _).mono ?_); rintro e w2 ⟨rfl, rfl⟩)
            | (go_at_call 28; (with_reducible refine (HQg.out _).mono ?_); rintro e w2 ⟨rfl, rfl⟩))
          have lb := H0.out.m.lt
          refine region_below (by kernel_rfl) (by kernel_rfl) ?_
          try simp only [Act.put]
          repeat (first
            | (go_big_quiet_want; refine quiet_cat _ _ _ rfl ⟨u, ⟨#[64]⟩, rfl, rfl, S1.out, ?_⟩; simp only [Act.put, List.setIfInBounds_toArray, List.set_cons_succ, List.set_cons_zero]; go_big_quiet_on)
            | (go_big_quiet_want; refine quiet_cat _ _ _ rfl ⟨u ++ ⟨#[64]⟩, v, rfl, rfl, S2.out, ?_⟩; simp only [Act.put, List.setIfInBounds_toArray, List.set_cons_succ, List.set_cons_zero]; go_big_quiet_on)
            | go_big_quiet_step (first
              | (go_at_call 29; (with_reducible exact quiet_below (HL.out _)))
              | (go_at_call 14; (with_reducible exact quiet_below (HT.out _)))))
          refine wpQuiet_nil ?_
          intro w3 hb3
          have H3 := Lib.hid (H0.out.next hb3)
          clear hb3
          go_wp2
          go_ret
          exact ⟨by rw [← E.out]; rfl, H3.out.below⟩
        · refine ⟨⟨#[]⟩, HN.out (fun h => by cases h.2.2.2), fun w => ?_⟩
          clear hk hf hg hy hy0 h1 HN
          have hP := PMv.start w c (movC f f 0 y true)
          have m0 := hP.m.cell 0
          rw [show (movC f f 0 y true)[0]? = some (.int .i8 f) from rfl] at m0
          have m1 := hP.m.cell 1
          rw [show (movC f f 0 y true)[1]? = some (.int .i8 f) from rfl] at m1
          have m2 := hP.m.cell 2
          rw [show (movC f f 0 y true)[2]? = some (.int .u8 0) from rfl] at m2
          have m3 := hP.m.cell 3
          rw [show (movC f f 0 y true)[3]? = some (.int .u8 y) from rfl] at m3
          have m4 := hP.m.cell 4
          rw [show (movC f f 0 y true)[4]? = some (.bool true) from rfl] at m4
          have c0 := hP.p.cell (i := 0) (by decide)
          have c78 := hP.p.cell (i := 78) (by decide)
          rw [show pk 0 = .u8 from rfl] at c0
          rw [show pk 78 = .u8 from rfl] at c78
          have H0 := Lib.hid hP
          clear hP
          go_enter Try.func15, Try.ntmps15
          go_wp2_with (first
            | (go_at_call 28; (with_reducible refine (HQf.out _).mono ?_); rintro e w2 ⟨rfl, rfl⟩)
            | (go_at_call 28; (with_reducible refine (HQg.out _).mono ?_); rintro e w2 ⟨rfl, rfl⟩))
          go_ret
          exact ⟨rfl, H0.out.below⟩
      · have x0 : (x != 0) = true := by simpa using h3
        refine ⟨⟨#[]⟩, HN.out (fun h => h3 h.2.2.1), fun w => ?_⟩
        clear hk hf hg hy hy0 h1 h3 HN
        have hP := PMv.start w c (movC f f x y z)
        have m0 := hP.m.cell 0
        rw [show (movC f f x y z)[0]? = some (.int .i8 f) from rfl] at m0
        have m1 := hP.m.cell 1
        rw [show (movC f f x y z)[1]? = some (.int .i8 f) from rfl] at m1
        have m2 := hP.m.cell 2
        rw [show (movC f f x y z)[2]? = some (.int .u8 x) from rfl] at m2
        have m3 := hP.m.cell 3
        rw [show (movC f f x y z)[3]? = some (.int .u8 y) from rfl] at m3
        have m4 := hP.m.cell 4
        rw [show (movC f f x y z)[4]? = some (.bool z) from rfl] at m4
        have c0 := hP.p.cell (i := 0) (by decide)
        have c78 := hP.p.cell (i := 78) (by decide)
        rw [show pk 0 = .u8 from rfl] at c0
        rw [show pk 78 = .u8 from rfl] at c78
        have H0 := Lib.hid hP
        clear hP
        go_enter Try.func15, Try.ntmps15
        go_wp2_with (first
          | (go_at_call 28; (with_reducible refine (HQf.out _).mono ?_); rintro e w2 ⟨rfl, rfl⟩)
          | (go_at_call 28; (with_reducible refine (HQg.out _).mono ?_); rintro e w2 ⟨rfl, rfl⟩))
        go_ret
        exact ⟨rfl, H0.out.below⟩
    · have fg : (f != g) = true := by simpa using h2
      refine ⟨⟨#[]⟩, HN.out (fun h => h2 h.2.1), fun w => ?_⟩
      clear hk hf hg hy hy0 h1 h2 HN
      have hP := PMv.start w c (movC f g x y z)
      have m0 := hP.m.cell 0
      rw [show (movC f g x y z)[0]? = some (.int .i8 f) from rfl] at m0
      have m1 := hP.m.cell 1
      rw [show (movC f g x y z)[1]? = some (.int .i8 g) from rfl] at m1
      have m2 := hP.m.cell 2
      rw [show (movC f g x y z)[2]? = some (.int .u8 x) from rfl] at m2
      have m3 := hP.m.cell 3
      rw [show (movC f g x y z)[3]? = some (.int .u8 y) from rfl] at m3
      have m4 := hP.m.cell 4
      rw [show (movC f g x y z)[4]? = some (.bool z) from rfl] at m4
      have c0 := hP.p.cell (i := 0) (by decide)
      have c78 := hP.p.cell (i := 78) (by decide)
      rw [show pk 0 = .u8 from rfl] at c0
      rw [show pk 78 = .u8 from rfl] at c78
      have H0 := Lib.hid hP
      clear hP
      go_enter Try.func15, Try.ntmps15
      go_wp2_with (first
        | (go_at_call 28; (with_reducible refine (HQf.out _).mono ?_); rintro e w2 ⟨rfl, rfl⟩)
        | (go_at_call 28; (with_reducible refine (HQg.out _).mono ?_); rintro e w2 ⟨rfl, rfl⟩))
      go_ret
      exact ⟨rfl, H0.out.below⟩
  · have y5 : decide (5 < y) = true := by simp; omega
    refine ⟨⟨#[]⟩, HN.out (fun h => h1 h.1), fun w => ?_⟩
    clear hk hf hg hy hy0 h1 HN
    have hP := PMv.start w c (movC f g x y z)
    have m0 := hP.m.cell 0
    rw [show (movC f g x y z)[0]? = some (.int .i8 f) from rfl] at m0
    have m1 := hP.m.cell 1
    rw [show (movC f g x y z)[1]? = some (.int .i8 g) from rfl] at m1
    have m2 := hP.m.cell 2
    rw [show (movC f g x y z)[2]? = some (.int .u8 x) from rfl] at m2
    have m3 := hP.m.cell 3
    rw [show (movC f g x y z)[3]? = some (.int .u8 y) from rfl] at m3
    have m4 := hP.m.cell 4
    rw [show (movC f g x y z)[4]? = some (.bool z) from rfl] at m4
    have c0 := hP.p.cell (i := 0) (by decide)
    have c78 := hP.p.cell (i := 78) (by decide)
    rw [show pk 0 = .u8 from rfl] at c0
    rw [show pk 78 = .u8 from rfl] at c78
    have H0 := Lib.hid hP
    clear hP
    go_enter Try.func15, Try.ntmps15
    go_wp2_with (first
      | (go_at_call 28; (with_reducible refine (HQf.out _).mono ?_); rintro e w2 ⟨rfl, rfl⟩)
      | (go_at_call 28; (with_reducible refine (HQg.out _).mono ?_); rintro e w2 ⟨rfl, rfl⟩))
    go_ret
    exact ⟨rfl, H0.out.below⟩

set_option maxRecDepth 100000 in
set_option maxHeartbeats 4000000 in
/-- Moves that drop nothing. -/
theorem d11TextC (c : Nat → Int) (a b k : Nat) (z : Bool) (hc : PosOk c) (hk : N.known c) (ha : a < 64) (hb : b < 64) (hk8 : k ≤ 255) : ∃ s, N.TextEnd c (a : Int) (b : Int) (k : Int) 0 z s ∧ ∀ w, Calls Try.prog 15 #[.agg (posC c), .agg (movC (a : Int) (b : Int) (k : Int) 0 z)] w fun e w' => e = .returned (.string s) ∧ Below w.heap.size w w' := by
  have HQf : Hid (∀ W, Calls Try.prog 28 #[.int .i8 (a : Int)] W fun e w' => e = .returned (.bool (N.sq (a : Int))) ∧ W = w') := Lib.hid (fun W => d11square_any _ W)
  have HQg : Hid (∀ W, Calls Try.prog 28 #[.int .i8 (b : Int)] W fun e w' => e = .returned (.bool (N.sq (b : Int))) ∧ W = w') := Lib.hid (fun W => d11square_any _ W)
  have hk0 := hk.1
  have hk1 := hk.2
  have d0 : decide (8 < c 0) = false := by simp; omega
  have d1 : decide (1 < c 78) = false := by simp; omega
  clear hk0 hk1
  have k2 : N.sq (a : Int) = true := N.sq_iff.2 (by omega)
  have k3 : N.sq (b : Int) = true := N.sq_iff.2 (by omega)
  rw [k2] at HQf
  rw [k3] at HQg
  clear k2 k3
  by_cases h1 : a = b
  · subst h1
    refine ⟨⟨#[]⟩, N.text_same (.inl rfl), fun w => ?_⟩
    clear hc hk ha hb hk8
    have hP := PMv.start w c (movC (a : Int) (a : Int) (k : Int) 0 z)
    have m0 := hP.m.cell 0
    rw [show (movC (a : Int) (a : Int) (k : Int) 0 z)[0]? = some (.int .i8 (a : Int)) from rfl] at m0
    have m1 := hP.m.cell 1
    rw [show (movC (a : Int) (a : Int) (k : Int) 0 z)[1]? = some (.int .i8 (a : Int)) from rfl] at m1
    have m2 := hP.m.cell 2
    rw [show (movC (a : Int) (a : Int) (k : Int) 0 z)[2]? = some (.int .u8 (k : Int)) from rfl] at m2
    have m3 := hP.m.cell 3
    rw [show (movC (a : Int) (a : Int) (k : Int) 0 z)[3]? = some (.int .u8 0) from rfl] at m3
    have m4 := hP.m.cell 4
    rw [show (movC (a : Int) (a : Int) (k : Int) 0 z)[4]? = some (.bool z) from rfl] at m4
    have c0 := hP.p.cell (i := 0) (by decide)
    have c78 := hP.p.cell (i := 78) (by decide)
    rw [show pk 0 = .u8 from rfl] at c0
    rw [show pk 78 = .u8 from rfl] at c78
    have H0 := Lib.hid hP
    clear hP
    go_enter Try.func15, Try.ntmps15
    go_wp2_with (first
      | (go_at_call 28; (with_reducible refine (HQf.out _).mono ?_); rintro e w2 ⟨rfl, rfl⟩)
      | (go_at_call 28; (with_reducible refine (HQg.out _).mono ?_); rintro e w2 ⟨rfl, rfl⟩))
    go_ret
    exact ⟨rfl, H0.out.below⟩
  · have fg : ((a : Int) == (b : Int)) = false := by simp; omega
    by_cases hx1 : k = 1
    · subst hx1
      refine ⟨⟨#[]⟩, N.text_no (fun h => by have := h.2.2; omega), fun w => ?_⟩
      clear hc hk ha hb hk8 h1
      have hP := PMv.start w c (movC (a : Int) (b : Int) 1 0 z)
      have m0 := hP.m.cell 0
      rw [show (movC (a : Int) (b : Int) 1 0 z)[0]? = some (.int .i8 (a : Int)) from rfl] at m0
      have m1 := hP.m.cell 1
      rw [show (movC (a : Int) (b : Int) 1 0 z)[1]? = some (.int .i8 (b : Int)) from rfl] at m1
      have m2 := hP.m.cell 2
      rw [show (movC (a : Int) (b : Int) 1 0 z)[2]? = some (.int .u8 1) from rfl] at m2
      have m3 := hP.m.cell 3
      rw [show (movC (a : Int) (b : Int) 1 0 z)[3]? = some (.int .u8 0) from rfl] at m3
      have m4 := hP.m.cell 4
      rw [show (movC (a : Int) (b : Int) 1 0 z)[4]? = some (.bool z) from rfl] at m4
      have c0 := hP.p.cell (i := 0) (by decide)
      have c78 := hP.p.cell (i := 78) (by decide)
      rw [show pk 0 = .u8 from rfl] at c0
      rw [show pk 78 = .u8 from rfl] at c78
      have H0 := Lib.hid hP
      clear hP
      go_enter Try.func15, Try.ntmps15
      go_wp2_with (first
        | (go_at_call 28; (with_reducible refine (HQf.out _).mono ?_); rintro e w2 ⟨rfl, rfl⟩)
        | (go_at_call 28; (with_reducible refine (HQg.out _).mono ?_); rintro e w2 ⟨rfl, rfl⟩))
      go_ret
      exact ⟨rfl, H0.out.below⟩
    have p1 : ((k : Int) == 1) = false := by simp; omega
    by_cases hx6 : 6 < k
    · have p6 : decide (6 < (k : Int)) = true := by simp; omega
      refine ⟨⟨#[]⟩, N.text_no (fun h => by have := h.2.2; omega), fun w => ?_⟩
      clear hc hk ha hb hk8 h1 hx1 hx6
      have hP := PMv.start w c (movC (a : Int) (b : Int) (k : Int) 0 z)
      have m0 := hP.m.cell 0
      rw [show (movC (a : Int) (b : Int) (k : Int) 0 z)[0]? = some (.int .i8 (a : Int)) from rfl] at m0
      have m1 := hP.m.cell 1
      rw [show (movC (a : Int) (b : Int) (k : Int) 0 z)[1]? = some (.int .i8 (b : Int)) from rfl] at m1
      have m2 := hP.m.cell 2
      rw [show (movC (a : Int) (b : Int) (k : Int) 0 z)[2]? = some (.int .u8 (k : Int)) from rfl] at m2
      have m3 := hP.m.cell 3
      rw [show (movC (a : Int) (b : Int) (k : Int) 0 z)[3]? = some (.int .u8 0) from rfl] at m3
      have m4 := hP.m.cell 4
      rw [show (movC (a : Int) (b : Int) (k : Int) 0 z)[4]? = some (.bool z) from rfl] at m4
      have c0 := hP.p.cell (i := 0) (by decide)
      have c78 := hP.p.cell (i := 78) (by decide)
      rw [show pk 0 = .u8 from rfl] at c0
      rw [show pk 78 = .u8 from rfl] at c78
      have H0 := Lib.hid hP
      clear hP
      go_enter Try.func15, Try.ntmps15
      go_wp2_with (first
        | (go_at_call 28; (with_reducible refine (HQf.out _).mono ?_); rintro e w2 ⟨rfl, rfl⟩)
        | (go_at_call 28; (with_reducible refine (HQg.out _).mono ?_); rintro e w2 ⟨rfl, rfl⟩))
      go_ret
      exact ⟨rfl, H0.out.below⟩
    have p6 : decide (6 < (k : Int)) = false := by simp; omega
    have hx : k = 0 ∨ (2 ≤ k ∧ k ≤ 6) := by omega
    clear hx1 hx6 hk8
    cases z
    · have HP : Hid (∀ W, Calls Try.prog 30 #[.int .i8 (a : Int), .int .i8 (b : Int)] W fun e w' => e = .returned (.string (N.two a b)) ∧ Below W.heap.size W w') := Lib.hid (fun W => d11two_any a b W ha hb)
      by_cases h2 : k = 0
      · subst h2
        have E := Lib.hid (show N.two a b = N.walk a b 0 from rfl)
        clear p1 p6 hx
        obtain ⟨u, hu⟩ : ∃ u, N.two a b = u := ⟨_, rfl⟩
        rw [hu] at HP E
        clear hu
        obtain ⟨p, q, t, ok, ⟨hR, hz, hn⟩, hRC⟩ := d11castling_fix c (N.walk a b 0) hc hk
        have HR := Lib.hid hRC
        have hD := N.text_walk hk ha hb h1 (.inl rfl) hR
        clear hz hn hRC hR hc hk ha hb h1
        cases ok
        · have HD := Lib.hid hD
          rw [if_neg (by simp)] at HD
          clear hD
          refine ⟨N.walk a b 0, HD.out, fun w => ?_⟩
          clear HD
          obtain ⟨S, hS⟩ : ∃ S, N.walk a b 0 = S := ⟨_, rfl⟩
          rw [hS] at HR E ⊢
          rw [← E.out] at HR
          clear hS
          have hP := PMv.start w c (movC (a : Int) (b : Int) 0 0 false)
          have m0 := hP.m.cell 0
          rw [show (movC (a : Int) (b : Int) 0 0 false)[0]? = some (.int .i8 (a : Int)) from rfl] at m0
          have m1 := hP.m.cell 1
          rw [show (movC (a : Int) (b : Int) 0 0 false)[1]? = some (.int .i8 (b : Int)) from rfl] at m1
          have m2 := hP.m.cell 2
          rw [show (movC (a : Int) (b : Int) 0 0 false)[2]? = some (.int .u8 0) from rfl] at m2
          have m3 := hP.m.cell 3
          rw [show (movC (a : Int) (b : Int) 0 0 false)[3]? = some (.int .u8 0) from rfl] at m3
          have m4 := hP.m.cell 4
          rw [show (movC (a : Int) (b : Int) 0 0 false)[4]? = some (.bool false) from rfl] at m4
          have c0 := hP.p.cell (i := 0) (by decide)
          have c78 := hP.p.cell (i := 78) (by decide)
          rw [show pk 0 = .u8 from rfl] at c0
          rw [show pk 78 = .u8 from rfl] at c78
          have H0 := Lib.hid hP
          clear hP
          go_enter Try.func15, Try.ntmps15
          go_wp2_with (first
            | (go_at_call 28; (with_reducible refine (HQf.out _).mono ?_); rintro e w2 ⟨rfl, rfl⟩)
            | (go_at_call 28; (with_reducible refine (HQg.out _).mono ?_); rintro e w2 ⟨rfl, rfl⟩)
            | ((with_reducible refine wp_load_box rfl _ rfl ?_); refine ⟨_, c, rfl, H3.out.p, ?_⟩)
            | (go_at_call 30; (with_reducible refine (HP.out _).mono ?_); rintro e w3 ⟨rfl, hb3⟩; have H3 := Lib.hid (H0.out.next hb3); have m0 := H3.out.m.cell 0; rw [show (movC (a : Int) (b : Int) 0 0 false)[0]? = some (.int .i8 (a : Int)) from rfl] at m0; have m1 := H3.out.m.cell 1; rw [show (movC (a : Int) (b : Int) 0 0 false)[1]? = some (.int .i8 (b : Int)) from rfl] at m1; have m2 := H3.out.m.cell 2; rw [show (movC (a : Int) (b : Int) 0 0 false)[2]? = some (.int .u8 0) from rfl] at m2; have m3 := H3.out.m.cell 3; rw [show (movC (a : Int) (b : Int) 0 0 false)[3]? = some (.int .u8 0) from rfl] at m3; have m4 := H3.out.m.cell 4; rw [show (movC (a : Int) (b : Int) 0 0 false)[4]? = some (.bool false) from rfl] at m4; have c0 := H3.out.p.cell (i := 0) (by decide); have c78 := H3.out.p.cell (i := 78) (by decide); rw [show pk 0 = .u8 from rfl] at c0; rw [show pk 78 = .u8 from rfl] at c78; clear hb3)
            | (go_at_call 13; (with_reducible refine (HR.out _).mono ?_); rintro e w5 ⟨rfl, hb5⟩; have H5 := Lib.hid (H3.out.next hb5); clear hb5)
            | ((with_reducible refine wp_store_row' rfl 33 _ _ rfl ?_); refine ⟨w5.heap.size, 33, movC p q 0 0 t, rfl, rfl, ⟨_, heap_alloc_new _ _, (by kernel_rfl)⟩, Try.info_mvB _ _ _ _ _, Try.one_mvB _ _ _ _ _, ?_⟩; intro V hV hq; have H6 := Lib.hid (hV.below (H5.out.below.alloc H5.out.below.size _) H5.out.below.size); clear hV hq))
          go_ret
          exact ⟨by rw [← E.out]; rfl, H6.out⟩
        · have HD := Lib.hid hD
          rw [if_pos rfl] at HD
          clear hD
          refine ⟨⟨#[]⟩, HD.out, fun w => ?_⟩
          clear HD
          obtain ⟨S, hS⟩ : ∃ S, N.walk a b 0 = S := ⟨_, rfl⟩
          rw [hS] at HR E
          rw [← E.out] at HR
          clear hS
          have hP := PMv.start w c (movC (a : Int) (b : Int) 0 0 false)
          have m0 := hP.m.cell 0
          rw [show (movC (a : Int) (b : Int) 0 0 false)[0]? = some (.int .i8 (a : Int)) from rfl] at m0
          have m1 := hP.m.cell 1
          rw [show (movC (a : Int) (b : Int) 0 0 false)[1]? = some (.int .i8 (b : Int)) from rfl] at m1
          have m2 := hP.m.cell 2
          rw [show (movC (a : Int) (b : Int) 0 0 false)[2]? = some (.int .u8 0) from rfl] at m2
          have m3 := hP.m.cell 3
          rw [show (movC (a : Int) (b : Int) 0 0 false)[3]? = some (.int .u8 0) from rfl] at m3
          have m4 := hP.m.cell 4
          rw [show (movC (a : Int) (b : Int) 0 0 false)[4]? = some (.bool false) from rfl] at m4
          have c0 := hP.p.cell (i := 0) (by decide)
          have c78 := hP.p.cell (i := 78) (by decide)
          rw [show pk 0 = .u8 from rfl] at c0
          rw [show pk 78 = .u8 from rfl] at c78
          have H0 := Lib.hid hP
          clear hP
          go_enter Try.func15, Try.ntmps15
          go_wp2_with (first
            | (go_at_call 28; (with_reducible refine (HQf.out _).mono ?_); rintro e w2 ⟨rfl, rfl⟩)
            | (go_at_call 28; (with_reducible refine (HQg.out _).mono ?_); rintro e w2 ⟨rfl, rfl⟩)
            | ((with_reducible refine wp_load_box rfl _ rfl ?_); refine ⟨_, c, rfl, H3.out.p, ?_⟩)
            | (go_at_call 30; (with_reducible refine (HP.out _).mono ?_); rintro e w3 ⟨rfl, hb3⟩; have H3 := Lib.hid (H0.out.next hb3); have m0 := H3.out.m.cell 0; rw [show (movC (a : Int) (b : Int) 0 0 false)[0]? = some (.int .i8 (a : Int)) from rfl] at m0; have m1 := H3.out.m.cell 1; rw [show (movC (a : Int) (b : Int) 0 0 false)[1]? = some (.int .i8 (b : Int)) from rfl] at m1; have m2 := H3.out.m.cell 2; rw [show (movC (a : Int) (b : Int) 0 0 false)[2]? = some (.int .u8 0) from rfl] at m2; have m3 := H3.out.m.cell 3; rw [show (movC (a : Int) (b : Int) 0 0 false)[3]? = some (.int .u8 0) from rfl] at m3; have m4 := H3.out.m.cell 4; rw [show (movC (a : Int) (b : Int) 0 0 false)[4]? = some (.bool false) from rfl] at m4; have c0 := H3.out.p.cell (i := 0) (by decide); have c78 := H3.out.p.cell (i := 78) (by decide); rw [show pk 0 = .u8 from rfl] at c0; rw [show pk 78 = .u8 from rfl] at c78; clear hb3)
            | (go_at_call 13; (with_reducible refine (HR.out _).mono ?_); rintro e w5 ⟨rfl, hb5⟩; have H5 := Lib.hid (H3.out.next hb5); clear hb5)
            | ((with_reducible refine wp_store_row' rfl 33 _ _ rfl ?_); refine ⟨w5.heap.size, 33, movC p q 0 0 t, rfl, rfl, ⟨_, heap_alloc_new _ _, (by kernel_rfl)⟩, Try.info_mvB _ _ _ _ _, Try.one_mvB _ _ _ _ _, ?_⟩; intro V hV hq; have H6 := Lib.hid (hV.below (H5.out.below.alloc H5.out.below.size _) H5.out.below.size); clear hV hq))
          go_ret
          exact ⟨rfl, H6.out⟩
      · have x0 : ((k : Int) != 0) = true := by simpa using h2
        have HL : Hid (∀ W, Calls Try.prog 29 #[.int .u8 (8 + (k : Int))] W fun e w' => e = .returned (.string ⟨(N.lowB k).toArray⟩) ∧ Below W.heap.size W w') := Lib.hid (fun W => by have := d5low_any k W (by omega); rwa [Int.natCast_add] at this)
        have w8 : IntKind.u8.wrap (8 + (k : Int)) = 8 + (k : Int) := by unfold IntKind.wrap; simp only [IntKind.bits, IntKind.signed]; simp; omega
        have E := Lib.hid (N.two_low a b k)
        have SZ := (show (N.two a b).size + (⟨(N.lowB k).toArray⟩ : ByteArray).size ≤ 9223372036854775807 from by have := N.low_sz k; have : (N.two a b).size = 4 := rfl; omega)
        obtain ⟨u, hu⟩ : ∃ u, N.two a b = u := ⟨_, rfl⟩
        obtain ⟨v, hv⟩ : ∃ u, (⟨(N.lowB k).toArray⟩ : ByteArray) = u := ⟨_, rfl⟩
        rw [hu] at HP E SZ
        rw [hv] at HL E SZ
        clear hu hv h2
        obtain ⟨p, q, t, ok, ⟨hR, hz, hn⟩, hRC⟩ := d11castling_fix c (N.walk a b k) hc hk
        have HR := Lib.hid hRC
        have hD := N.text_walk hk ha hb h1 hx hR
        clear hz hn hRC hR hc hk ha hb h1 hx
        cases ok
        · have HD := Lib.hid hD
          rw [if_neg (by simp)] at HD
          clear hD
          refine ⟨N.walk a b k, HD.out, fun w => ?_⟩
          clear HD
          obtain ⟨S, hS⟩ : ∃ S, N.walk a b k = S := ⟨_, rfl⟩
          rw [hS] at HR E ⊢
          rw [← E.out] at HR
          clear hS
          have hP := PMv.start w c (movC (a : Int) (b : Int) (k : Int) 0 false)
          have m0 := hP.m.cell 0
          rw [show (movC (a : Int) (b : Int) (k : Int) 0 false)[0]? = some (.int .i8 (a : Int)) from rfl] at m0
          have m1 := hP.m.cell 1
          rw [show (movC (a : Int) (b : Int) (k : Int) 0 false)[1]? = some (.int .i8 (b : Int)) from rfl] at m1
          have m2 := hP.m.cell 2
          rw [show (movC (a : Int) (b : Int) (k : Int) 0 false)[2]? = some (.int .u8 (k : Int)) from rfl] at m2
          have m3 := hP.m.cell 3
          rw [show (movC (a : Int) (b : Int) (k : Int) 0 false)[3]? = some (.int .u8 0) from rfl] at m3
          have m4 := hP.m.cell 4
          rw [show (movC (a : Int) (b : Int) (k : Int) 0 false)[4]? = some (.bool false) from rfl] at m4
          have c0 := hP.p.cell (i := 0) (by decide)
          have c78 := hP.p.cell (i := 78) (by decide)
          rw [show pk 0 = .u8 from rfl] at c0
          rw [show pk 78 = .u8 from rfl] at c78
          have H0 := Lib.hid hP
          clear hP
          go_enter Try.func15, Try.ntmps15
          go_wp2_with (first
            | (go_at_call 28; (with_reducible refine (HQf.out _).mono ?_); rintro e w2 ⟨rfl, rfl⟩)
            | (go_at_call 28; (with_reducible refine (HQg.out _).mono ?_); rintro e w2 ⟨rfl, rfl⟩)
            | ((with_reducible refine wp_load_box rfl _ rfl ?_); refine ⟨_, c, rfl, H4.out.p, ?_⟩)
            | (go_at_call 30; (with_reducible refine (HP.out _).mono ?_); rintro e w3 ⟨rfl, hb3⟩; have H3 := Lib.hid (H0.out.next hb3); have m0 := H3.out.m.cell 0; rw [show (movC (a : Int) (b : Int) (k : Int) 0 false)[0]? = some (.int .i8 (a : Int)) from rfl] at m0; have m1 := H3.out.m.cell 1; rw [show (movC (a : Int) (b : Int) (k : Int) 0 false)[1]? = some (.int .i8 (b : Int)) from rfl] at m1; have m2 := H3.out.m.cell 2; rw [show (movC (a : Int) (b : Int) (k : Int) 0 false)[2]? = some (.int .u8 (k : Int)) from rfl] at m2; have m3 := H3.out.m.cell 3; rw [show (movC (a : Int) (b : Int) (k : Int) 0 false)[3]? = some (.int .u8 0) from rfl] at m3; have m4 := H3.out.m.cell 4; rw [show (movC (a : Int) (b : Int) (k : Int) 0 false)[4]? = some (.bool false) from rfl] at m4; have c0 := H3.out.p.cell (i := 0) (by decide); have c78 := H3.out.p.cell (i := 78) (by decide); rw [show pk 0 = .u8 from rfl] at c0; rw [show pk 78 = .u8 from rfl] at c78; clear hb3)
            | (go_at_call 29; (with_reducible refine (HL.out _).mono ?_); rintro e w4 ⟨rfl, hb4⟩; have H4 := Lib.hid (H3.out.next hb4); clear hb4)
            | (go_at_call 13; (with_reducible refine (HR.out _).mono ?_); rintro e w5 ⟨rfl, hb5⟩; have H5 := Lib.hid (H4.out.next hb5); clear hb5)
            | ((with_reducible refine wp_store_row' rfl 33 _ _ rfl ?_); refine ⟨w5.heap.size, 33, movC p q 0 0 t, rfl, rfl, ⟨_, heap_alloc_new _ _, (by kernel_rfl)⟩, Try.info_mvB _ _ _ _ _, Try.one_mvB _ _ _ _ _, ?_⟩; intro V hV hq; have H6 := Lib.hid (hV.below (H5.out.below.alloc H5.out.below.size _) H5.out.below.size); clear hV hq))
          go_ret
          exact ⟨by rw [← E.out]; rfl, H6.out⟩
        · have HD := Lib.hid hD
          rw [if_pos rfl] at HD
          clear hD
          refine ⟨⟨#[]⟩, HD.out, fun w => ?_⟩
          clear HD
          obtain ⟨S, hS⟩ : ∃ S, N.walk a b k = S := ⟨_, rfl⟩
          rw [hS] at HR E
          rw [← E.out] at HR
          clear hS
          have hP := PMv.start w c (movC (a : Int) (b : Int) (k : Int) 0 false)
          have m0 := hP.m.cell 0
          rw [show (movC (a : Int) (b : Int) (k : Int) 0 false)[0]? = some (.int .i8 (a : Int)) from rfl] at m0
          have m1 := hP.m.cell 1
          rw [show (movC (a : Int) (b : Int) (k : Int) 0 false)[1]? = some (.int .i8 (b : Int)) from rfl] at m1
          have m2 := hP.m.cell 2
          rw [show (movC (a : Int) (b : Int) (k : Int) 0 false)[2]? = some (.int .u8 (k : Int)) from rfl] at m2
          have m3 := hP.m.cell 3
          rw [show (movC (a : Int) (b : Int) (k : Int) 0 false)[3]? = some (.int .u8 0) from rfl] at m3
          have m4 := hP.m.cell 4
          rw [show (movC (a : Int) (b : Int) (k : Int) 0 false)[4]? = some (.bool false) from rfl] at m4
          have c0 := hP.p.cell (i := 0) (by decide)
          have c78 := hP.p.cell (i := 78) (by decide)
          rw [show pk 0 = .u8 from rfl] at c0
          rw [show pk 78 = .u8 from rfl] at c78
          have H0 := Lib.hid hP
          clear hP
          go_enter Try.func15, Try.ntmps15
          go_wp2_with (first
            | (go_at_call 28; (with_reducible refine (HQf.out _).mono ?_); rintro e w2 ⟨rfl, rfl⟩)
            | (go_at_call 28; (with_reducible refine (HQg.out _).mono ?_); rintro e w2 ⟨rfl, rfl⟩)
            | ((with_reducible refine wp_load_box rfl _ rfl ?_); refine ⟨_, c, rfl, H4.out.p, ?_⟩)
            | (go_at_call 30; (with_reducible refine (HP.out _).mono ?_); rintro e w3 ⟨rfl, hb3⟩; have H3 := Lib.hid (H0.out.next hb3); have m0 := H3.out.m.cell 0; rw [show (movC (a : Int) (b : Int) (k : Int) 0 false)[0]? = some (.int .i8 (a : Int)) from rfl] at m0; have m1 := H3.out.m.cell 1; rw [show (movC (a : Int) (b : Int) (k : Int) 0 false)[1]? = some (.int .i8 (b : Int)) from rfl] at m1; have m2 := H3.out.m.cell 2; rw [show (movC (a : Int) (b : Int) (k : Int) 0 false)[2]? = some (.int .u8 (k : Int)) from rfl] at m2; have m3 := H3.out.m.cell 3; rw [show (movC (a : Int) (b : Int) (k : Int) 0 false)[3]? = some (.int .u8 0) from rfl] at m3; have m4 := H3.out.m.cell 4; rw [show (movC (a : Int) (b : Int) (k : Int) 0 false)[4]? = some (.bool false) from rfl] at m4; have c0 := H3.out.p.cell (i := 0) (by decide); have c78 := H3.out.p.cell (i := 78) (by decide); rw [show pk 0 = .u8 from rfl] at c0; rw [show pk 78 = .u8 from rfl] at c78; clear hb3)
            | (go_at_call 29; (with_reducible refine (HL.out _).mono ?_); rintro e w4 ⟨rfl, hb4⟩; have H4 := Lib.hid (H3.out.next hb4); clear hb4)
            | (go_at_call 13; (with_reducible refine (HR.out _).mono ?_); rintro e w5 ⟨rfl, hb5⟩; have H5 := Lib.hid (H4.out.next hb5); clear hb5)
            | ((with_reducible refine wp_store_row' rfl 33 _ _ rfl ?_); refine ⟨w5.heap.size, 33, movC p q 0 0 t, rfl, rfl, ⟨_, heap_alloc_new _ _, (by kernel_rfl)⟩, Try.info_mvB _ _ _ _ _, Try.one_mvB _ _ _ _ _, ?_⟩; intro V hV hq; have H6 := Lib.hid (hV.below (H5.out.below.alloc H5.out.below.size _) H5.out.below.size); clear hV hq))
          go_ret
          exact ⟨rfl, H6.out⟩
    · by_cases h2 : k = 0
      · subst h2
        have HC : Hid (∀ W, Calls Try.prog 25 #[.agg (posC c), .agg (movC (a : Int) (b : Int) 0 0 true)] W fun e w' => e = .returned (.string (N.cas c a b)) ∧ Below W.heap.size W w') := Lib.hid (fun W => d11castles_any c a b W hc hk ha hb h1)
        have HD := Lib.hid (N.text_cas hk ha hb h1)
        clear hc hk ha hb hx h1 p1 p6
        refine ⟨N.cas c a b, HD.out, fun w => ?_⟩
        clear HD
        obtain ⟨S, hS⟩ : ∃ S, N.cas c a b = S := ⟨_, rfl⟩
        rw [hS] at HC ⊢
        clear hS
        have hP := PMv.start w c (movC (a : Int) (b : Int) 0 0 true)
        have m0 := hP.m.cell 0
        rw [show (movC (a : Int) (b : Int) 0 0 true)[0]? = some (.int .i8 (a : Int)) from rfl] at m0
        have m1 := hP.m.cell 1
        rw [show (movC (a : Int) (b : Int) 0 0 true)[1]? = some (.int .i8 (b : Int)) from rfl] at m1
        have m2 := hP.m.cell 2
        rw [show (movC (a : Int) (b : Int) 0 0 true)[2]? = some (.int .u8 0) from rfl] at m2
        have m3 := hP.m.cell 3
        rw [show (movC (a : Int) (b : Int) 0 0 true)[3]? = some (.int .u8 0) from rfl] at m3
        have m4 := hP.m.cell 4
        rw [show (movC (a : Int) (b : Int) 0 0 true)[4]? = some (.bool true) from rfl] at m4
        have c0 := hP.p.cell (i := 0) (by decide)
        have c78 := hP.p.cell (i := 78) (by decide)
        rw [show pk 0 = .u8 from rfl] at c0
        rw [show pk 78 = .u8 from rfl] at c78
        have H0 := Lib.hid hP
        clear hP
        go_enter Try.func15, Try.ntmps15
        go_wp2_with (first
          | (go_at_call 28; (with_reducible refine (HQf.out _).mono ?_); rintro e w2 ⟨rfl, rfl⟩)
          | (go_at_call 28; (with_reducible refine (HQg.out _).mono ?_); rintro e w2 ⟨rfl, rfl⟩)
          | ((with_reducible refine wp_load_box rfl _ rfl ?_); refine ⟨_, c, rfl, H0.out.p, ?_⟩)
          | ((with_reducible refine mv_load_rowG rfl 33 _ rfl Try.underlying33 rfl ?_); refine ⟨_, _, _, rfl, H0.out.m, Try.info_mvB _ _ _ _ _, ?_⟩)
          | (go_at_call 25; (with_reducible refine (HC.out _).mono ?_); rintro e w3 ⟨rfl, hb3⟩; have H3 := Lib.hid (H0.out.next hb3); clear hb3))
        go_ret
        exact ⟨rfl, H3.out.below⟩
      · have x0 : ((k : Int) != 0) = true := by simpa using h2
        refine ⟨⟨#[]⟩, N.text_same (.inr ⟨rfl, by omega⟩), fun w => ?_⟩
        clear hc hk ha hb hx h1 h2
        have hP := PMv.start w c (movC (a : Int) (b : Int) (k : Int) 0 true)
        have m0 := hP.m.cell 0
        rw [show (movC (a : Int) (b : Int) (k : Int) 0 true)[0]? = some (.int .i8 (a : Int)) from rfl] at m0
        have m1 := hP.m.cell 1
        rw [show (movC (a : Int) (b : Int) (k : Int) 0 true)[1]? = some (.int .i8 (b : Int)) from rfl] at m1
        have m2 := hP.m.cell 2
        rw [show (movC (a : Int) (b : Int) (k : Int) 0 true)[2]? = some (.int .u8 (k : Int)) from rfl] at m2
        have m3 := hP.m.cell 3
        rw [show (movC (a : Int) (b : Int) (k : Int) 0 true)[3]? = some (.int .u8 0) from rfl] at m3
        have m4 := hP.m.cell 4
        rw [show (movC (a : Int) (b : Int) (k : Int) 0 true)[4]? = some (.bool true) from rfl] at m4
        have c0 := hP.p.cell (i := 0) (by decide)
        have c78 := hP.p.cell (i := 78) (by decide)
        rw [show pk 0 = .u8 from rfl] at c0
        rw [show pk 78 = .u8 from rfl] at c78
        have H0 := Lib.hid hP
        clear hP
        go_enter Try.func15, Try.ntmps15
        go_wp2_with (first
          | (go_at_call 28; (with_reducible refine (HQf.out _).mono ?_); rintro e w2 ⟨rfl, rfl⟩)
          | (go_at_call 28; (with_reducible refine (HQg.out _).mono ?_); rintro e w2 ⟨rfl, rfl⟩))
        go_ret
        exact ⟨rfl, H0.out.below⟩
/-- Any move's text, of any position. -/
theorem d11Text_fix (c : Nat → Int) (f g x y : Int) (z : Bool) (hc : PosOk c) (hm : MovOk f g x y) : ∃ s, N.TextEnd c f g x y z s ∧ ∀ w, Calls Try.prog 15 #[.agg (posC c), .agg (movC f g x y z)] w fun e w' => e = .returned (.string s) ∧ Below w.heap.size w w' := by
  obtain ⟨_, _, hx0, hy0⟩ := hm
  by_cases h : N.known c ∧ ((0 ≤ f ∧ f < 64) ∧ (0 ≤ g ∧ g < 64))
  · obtain ⟨hk, hf, hg⟩ := h
    by_cases hy : y = 0
    · subst hy
      obtain ⟨a, rfl⟩ : ∃ a : Nat, f = (a : Int) := ⟨f.toNat, by omega⟩
      obtain ⟨b, rfl⟩ : ∃ a : Nat, g = (a : Int) := ⟨g.toNat, by omega⟩
      obtain ⟨k, rfl⟩ : ∃ a : Nat, x = (a : Int) := ⟨x.toNat, by omega⟩
      exact d11TextC c a b k z hc hk (by omega) (by omega) (by omega)
    · exact d11TextB c f g x y z hk hf hg hy0.1 hy
  · exact d11TextA c f g x y z hc h
end Go.Proofs.Ytldpejeodhkgdaa
