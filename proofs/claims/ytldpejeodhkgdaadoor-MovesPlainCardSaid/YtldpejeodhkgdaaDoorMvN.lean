/- The program's package moves: Text. -/
import Derived.Test.YtldpejeodhkgdaaDoorMvF
import Derived.Test.YtldpejeodhkgdaaDoorMvW
namespace Go.Proofs.YtldpejeodhkgdaaDoor
open Go.RowKit Go.Sort
attribute [local go_sem] Oper.semAt_some

namespace N
theorem drop_cat {k b : Nat} (hk : 1 ≤ k ∧ k ≤ 5) : (up k ++ ⟨#[64]⟩) ++ tx b = drop k b := by
  rw [up_of hk]
  rfl
end N

set_option maxRecDepth 100000 in
set_option maxHeartbeats 4000000 in
/-- What is refused at once. -/
theorem mvTextA (c : Nat → Int) (f g x y : Int) (z : Bool) (hc : PosOk c) (h : ¬ (N.known c ∧ ((0 ≤ f ∧ f < 64) ∧ (0 ≤ g ∧ g < 64)) ∧ (x = 0 ∨ (2 ≤ x ∧ x ≤ 6)))) (hx : 0 ≤ x) : ∃ s, N.TextEnd c f g x y z s ∧ ∀ w, Calls Tryd.prog 9 #[.agg (posC c), .agg (movC f g x y z)] w fun e w' => e = .returned (.string s) ∧ Below w.heap.size w w' := by
  have HQf : Hid (∀ W, Calls Tryd.prog 15 #[.int .i8 f] W fun e w' => e = .returned (.bool (N.sq f)) ∧ W = w') := Lib.hid (fun W => mvsquare_any f W)
  have HQg : Hid (∀ W, Calls Tryd.prog 15 #[.int .i8 g] W fun e w' => e = .returned (.bool (N.sq g)) ∧ W = w') := Lib.hid (fun W => mvsquare_any g W)
  have HKn : Hid (∀ W, Calls Tryd.prog 14 #[.agg (posC c)] W fun e w' => e = .returned (.bool (N.kn c)) ∧ Below W.heap.size W w') := Lib.hid (fun W => mvknown_any c W)
  have HN := Lib.hid (N.text_no (y := y) (z := z) h)
  have i1 := N.kn_iff hc
  have i2 := N.sq_iff (s := f)
  have i3 := N.sq_iff (s := g)
  cases k1 : N.kn c
  · rw [k1] at HKn
    refine ⟨⟨#[]⟩, HN.out, fun w => ?_⟩
    clear i1 i2 i3 h hx k1
    have hP := PMv.start w c (movC f g x y z)
    have m0 := hP.m.cell 0
    rw [show (movC f g x y z)[0]? = some (.int .i8 f) from rfl] at m0
    have m1 := hP.m.cell 1
    rw [show (movC f g x y z)[1]? = some (.int .i8 g) from rfl] at m1
    have m2 := hP.m.cell 2
    rw [show (movC f g x y z)[2]? = some (.int .u8 x) from rfl] at m2
    have m3 := hP.m.cell 3
    rw [show (movC f g x y z)[3]? = some (.int .u8 y) from rfl] at m3
    have m4 := hP.m.cell 4
    rw [show (movC f g x y z)[4]? = some (.bool z) from rfl] at m4
    have H0 := Lib.hid hP
    clear hP
    go_enter Tryd.func9, Tryd.ntmps9
    go_wp2_with (first
      | ((with_reducible refine wp_load_box rfl _ rfl ?_); refine ⟨_, c, rfl, H0.out.p, ?_⟩)
      | (go_at_call 14; (with_reducible refine (HKn.out _).mono ?_); rintro e w1 ⟨rfl, hb1⟩; have H1 := Lib.hid (H0.out.next hb1); have m0 := H1.out.m.cell 0; rw [show (movC f g x y z)[0]? = some (.int .i8 f) from rfl] at m0; have m1 := H1.out.m.cell 1; rw [show (movC f g x y z)[1]? = some (.int .i8 g) from rfl] at m1; have m2 := H1.out.m.cell 2; rw [show (movC f g x y z)[2]? = some (.int .u8 x) from rfl] at m2; have m3 := H1.out.m.cell 3; rw [show (movC f g x y z)[3]? = some (.int .u8 y) from rfl] at m3; have m4 := H1.out.m.cell 4; rw [show (movC f g x y z)[4]? = some (.bool z) from rfl] at m4; clear hb1)
      | (go_at_call 15; (with_reducible refine (HQf.out _).mono ?_); rintro e w2 ⟨rfl, rfl⟩)
      | (go_at_call 15; (with_reducible refine (HQg.out _).mono ?_); rintro e w2 ⟨rfl, rfl⟩))
    go_ret
    exact ⟨rfl, H1.out.below⟩
  cases k2 : N.sq f
  · rw [k1] at HKn
    rw [k2] at HQf
    refine ⟨⟨#[]⟩, HN.out, fun w => ?_⟩
    clear i1 i2 i3 h hx k1 k2
    have hP := PMv.start w c (movC f g x y z)
    have m0 := hP.m.cell 0
    rw [show (movC f g x y z)[0]? = some (.int .i8 f) from rfl] at m0
    have m1 := hP.m.cell 1
    rw [show (movC f g x y z)[1]? = some (.int .i8 g) from rfl] at m1
    have m2 := hP.m.cell 2
    rw [show (movC f g x y z)[2]? = some (.int .u8 x) from rfl] at m2
    have m3 := hP.m.cell 3
    rw [show (movC f g x y z)[3]? = some (.int .u8 y) from rfl] at m3
    have m4 := hP.m.cell 4
    rw [show (movC f g x y z)[4]? = some (.bool z) from rfl] at m4
    have H0 := Lib.hid hP
    clear hP
    go_enter Tryd.func9, Tryd.ntmps9
    go_wp2_with (first
      | ((with_reducible refine wp_load_box rfl _ rfl ?_); refine ⟨_, c, rfl, H0.out.p, ?_⟩)
      | (go_at_call 14; (with_reducible refine (HKn.out _).mono ?_); rintro e w1 ⟨rfl, hb1⟩; have H1 := Lib.hid (H0.out.next hb1); have m0 := H1.out.m.cell 0; rw [show (movC f g x y z)[0]? = some (.int .i8 f) from rfl] at m0; have m1 := H1.out.m.cell 1; rw [show (movC f g x y z)[1]? = some (.int .i8 g) from rfl] at m1; have m2 := H1.out.m.cell 2; rw [show (movC f g x y z)[2]? = some (.int .u8 x) from rfl] at m2; have m3 := H1.out.m.cell 3; rw [show (movC f g x y z)[3]? = some (.int .u8 y) from rfl] at m3; have m4 := H1.out.m.cell 4; rw [show (movC f g x y z)[4]? = some (.bool z) from rfl] at m4; clear hb1)
      | (go_at_call 15; (with_reducible refine (HQf.out _).mono ?_); rintro e w2 ⟨rfl, rfl⟩)
      | (go_at_call 15; (with_reducible refine (HQg.out _).mono ?_); rintro e w2 ⟨rfl, rfl⟩))
    go_ret
    exact ⟨rfl, H1.out.below⟩
  cases k3 : N.sq g
  · rw [k1] at HKn
    rw [k2] at HQf
    rw [k3] at HQg
    refine ⟨⟨#[]⟩, HN.out, fun w => ?_⟩
    clear i1 i2 i3 h hx k1 k2 k3
    have hP := PMv.start w c (movC f g x y z)
    have m0 := hP.m.cell 0
    rw [show (movC f g x y z)[0]? = some (.int .i8 f) from rfl] at m0
    have m1 := hP.m.cell 1
    rw [show (movC f g x y z)[1]? = some (.int .i8 g) from rfl] at m1
    have m2 := hP.m.cell 2
    rw [show (movC f g x y z)[2]? = some (.int .u8 x) from rfl] at m2
    have m3 := hP.m.cell 3
    rw [show (movC f g x y z)[3]? = some (.int .u8 y) from rfl] at m3
    have m4 := hP.m.cell 4
    rw [show (movC f g x y z)[4]? = some (.bool z) from rfl] at m4
    have H0 := Lib.hid hP
    clear hP
    go_enter Tryd.func9, Tryd.ntmps9
    go_wp2_with (first
      | ((with_reducible refine wp_load_box rfl _ rfl ?_); refine ⟨_, c, rfl, H0.out.p, ?_⟩)
      | (go_at_call 14; (with_reducible refine (HKn.out _).mono ?_); rintro e w1 ⟨rfl, hb1⟩; have H1 := Lib.hid (H0.out.next hb1); have m0 := H1.out.m.cell 0; rw [show (movC f g x y z)[0]? = some (.int .i8 f) from rfl] at m0; have m1 := H1.out.m.cell 1; rw [show (movC f g x y z)[1]? = some (.int .i8 g) from rfl] at m1; have m2 := H1.out.m.cell 2; rw [show (movC f g x y z)[2]? = some (.int .u8 x) from rfl] at m2; have m3 := H1.out.m.cell 3; rw [show (movC f g x y z)[3]? = some (.int .u8 y) from rfl] at m3; have m4 := H1.out.m.cell 4; rw [show (movC f g x y z)[4]? = some (.bool z) from rfl] at m4; clear hb1)
      | (go_at_call 15; (with_reducible refine (HQf.out _).mono ?_); rintro e w2 ⟨rfl, rfl⟩)
      | (go_at_call 15; (with_reducible refine (HQg.out _).mono ?_); rintro e w2 ⟨rfl, rfl⟩))
    go_ret
    exact ⟨rfl, H1.out.below⟩
  rw [k1] at HKn
  rw [k2] at HQf
  rw [k3] at HQg
  have h' : ¬ (x = 0 ∨ (2 ≤ x ∧ x ≤ 6)) := fun hq => h ⟨i1.1 k1, ⟨i2.1 k2, i3.1 k3⟩, hq⟩
  cases k4 : decide (6 < x)
  · have k5 : x = 1 := by
      have : ¬ 6 < x := by simpa using k4
      omega
    subst k5
    refine ⟨⟨#[]⟩, HN.out, fun w => ?_⟩
    clear i1 i2 i3 h hx k1 k2 k3 k4 h'
    have hP := PMv.start w c (movC f g 1 y z)
    have m0 := hP.m.cell 0
    rw [show (movC f g 1 y z)[0]? = some (.int .i8 f) from rfl] at m0
    have m1 := hP.m.cell 1
    rw [show (movC f g 1 y z)[1]? = some (.int .i8 g) from rfl] at m1
    have m2 := hP.m.cell 2
    rw [show (movC f g 1 y z)[2]? = some (.int .u8 1) from rfl] at m2
    have m3 := hP.m.cell 3
    rw [show (movC f g 1 y z)[3]? = some (.int .u8 y) from rfl] at m3
    have m4 := hP.m.cell 4
    rw [show (movC f g 1 y z)[4]? = some (.bool z) from rfl] at m4
    have H0 := Lib.hid hP
    clear hP
    go_enter Tryd.func9, Tryd.ntmps9
    go_wp2_with (first
      | ((with_reducible refine wp_load_box rfl _ rfl ?_); refine ⟨_, c, rfl, H0.out.p, ?_⟩)
      | (go_at_call 14; (with_reducible refine (HKn.out _).mono ?_); rintro e w1 ⟨rfl, hb1⟩; have H1 := Lib.hid (H0.out.next hb1); have m0 := H1.out.m.cell 0; rw [show (movC f g 1 y z)[0]? = some (.int .i8 f) from rfl] at m0; have m1 := H1.out.m.cell 1; rw [show (movC f g 1 y z)[1]? = some (.int .i8 g) from rfl] at m1; have m2 := H1.out.m.cell 2; rw [show (movC f g 1 y z)[2]? = some (.int .u8 1) from rfl] at m2; have m3 := H1.out.m.cell 3; rw [show (movC f g 1 y z)[3]? = some (.int .u8 y) from rfl] at m3; have m4 := H1.out.m.cell 4; rw [show (movC f g 1 y z)[4]? = some (.bool z) from rfl] at m4; clear hb1)
      | (go_at_call 15; (with_reducible refine (HQf.out _).mono ?_); rintro e w2 ⟨rfl, rfl⟩)
      | (go_at_call 15; (with_reducible refine (HQg.out _).mono ?_); rintro e w2 ⟨rfl, rfl⟩))
    go_ret
    exact ⟨rfl, H1.out.below⟩
  · refine ⟨⟨#[]⟩, HN.out, fun w => ?_⟩
    clear i1 i2 i3 h hx k1 k2 k3 h'
    have hP := PMv.start w c (movC f g x y z)
    have m0 := hP.m.cell 0
    rw [show (movC f g x y z)[0]? = some (.int .i8 f) from rfl] at m0
    have m1 := hP.m.cell 1
    rw [show (movC f g x y z)[1]? = some (.int .i8 g) from rfl] at m1
    have m2 := hP.m.cell 2
    rw [show (movC f g x y z)[2]? = some (.int .u8 x) from rfl] at m2
    have m3 := hP.m.cell 3
    rw [show (movC f g x y z)[3]? = some (.int .u8 y) from rfl] at m3
    have m4 := hP.m.cell 4
    rw [show (movC f g x y z)[4]? = some (.bool z) from rfl] at m4
    have H0 := Lib.hid hP
    clear hP
    go_enter Tryd.func9, Tryd.ntmps9
    go_wp2_with (first
      | ((with_reducible refine wp_load_box rfl _ rfl ?_); refine ⟨_, c, rfl, H0.out.p, ?_⟩)
      | (go_at_call 14; (with_reducible refine (HKn.out _).mono ?_); rintro e w1 ⟨rfl, hb1⟩; have H1 := Lib.hid (H0.out.next hb1); have m0 := H1.out.m.cell 0; rw [show (movC f g x y z)[0]? = some (.int .i8 f) from rfl] at m0; have m1 := H1.out.m.cell 1; rw [show (movC f g x y z)[1]? = some (.int .i8 g) from rfl] at m1; have m2 := H1.out.m.cell 2; rw [show (movC f g x y z)[2]? = some (.int .u8 x) from rfl] at m2; have m3 := H1.out.m.cell 3; rw [show (movC f g x y z)[3]? = some (.int .u8 y) from rfl] at m3; have m4 := H1.out.m.cell 4; rw [show (movC f g x y z)[4]? = some (.bool z) from rfl] at m4; clear hb1)
      | (go_at_call 15; (with_reducible refine (HQf.out _).mono ?_); rintro e w2 ⟨rfl, rfl⟩)
      | (go_at_call 15; (with_reducible refine (HQg.out _).mono ?_); rintro e w2 ⟨rfl, rfl⟩))
    go_ret
    exact ⟨rfl, H1.out.below⟩

set_option maxRecDepth 100000 in
set_option maxHeartbeats 4000000 in
/-- Drops. -/
theorem mvTextB (c : Nat → Int) (f g x y : Int) (z : Bool) (hc : PosOk c) (hk : N.known c) (hf : 0 ≤ f ∧ f < 64) (hg : 0 ≤ g ∧ g < 64) (hx : x = 0 ∨ (2 ≤ x ∧ x ≤ 6)) (hy : 0 ≤ y) (hy0 : y ≠ 0) : ∃ s, N.TextEnd c f g x y z s ∧ ∀ w, Calls Tryd.prog 9 #[.agg (posC c), .agg (movC f g x y z)] w fun e w' => e = .returned (.string s) ∧ Below w.heap.size w w' := by
  have HQf : Hid (∀ W, Calls Tryd.prog 15 #[.int .i8 f] W fun e w' => e = .returned (.bool (N.sq f)) ∧ W = w') := Lib.hid (fun W => mvsquare_any f W)
  have HQg : Hid (∀ W, Calls Tryd.prog 15 #[.int .i8 g] W fun e w' => e = .returned (.bool (N.sq g)) ∧ W = w') := Lib.hid (fun W => mvsquare_any g W)
  have HKn : Hid (∀ W, Calls Tryd.prog 14 #[.agg (posC c)] W fun e w' => e = .returned (.bool (N.kn c)) ∧ Below W.heap.size W w') := Lib.hid (fun W => mvknown_any c W)
  have k1 : N.kn c = true := (N.kn_iff hc).2 hk
  have k2 : N.sq f = true := N.sq_iff.2 hf
  have k3 : N.sq g = true := N.sq_iff.2 hg
  rw [k1] at HKn
  rw [k2] at HQf
  rw [k3] at HQg
  have p6 : decide (6 < x) = false := by simp; omega
  have p1 : (x == 1) = false := by simp; omega
  clear k1 k2 k3
  have HN := Lib.hid (fun h => N.text_noDrop (c := c) (f := f) (g := g) (x := x) (z := z) hy0 h)
  have y0 : (y != 0) = true := by simpa using hy0
  by_cases h1 : y ≤ 5
  · have y5 : decide (5 < y) = false := by simp; omega
    by_cases h2 : f = g
    · subst h2
      by_cases h3 : x = 0
      · subst h3
        cases z
        · obtain ⟨b, rfl⟩ : ∃ b : Nat, f = (b : Int) := ⟨f.toNat, by omega⟩
          obtain ⟨k, rfl⟩ : ∃ k : Nat, y = (k : Int) := ⟨y.toNat, by omega⟩
          have HD := Lib.hid (N.text_drop (c := c) (f := (b : Int)) (g := (b : Int)) (x := 0) (y := (k : Int)) (z := false) hk hf hg (by omega) rfl rfl rfl)
          simp only [Int.toNat_natCast] at HD
          have HL : Hid (∀ W, Calls Tryd.prog 16 #[.int .u8 (k : Int)] W fun e w' => e = .returned (.string (N.up k)) ∧ W = w') := Lib.hid (fun W => mvletter_any k W (by omega))
          have HT : Hid (∀ W, Calls Tryd.prog 17 #[.int .i8 (b : Int)] W fun e w' => e = .returned (.string (N.tx b)) ∧ Below W.heap.size W w') := Lib.hid (fun W => mvtext_any b W (by omega))
          have E := Lib.hid (N.drop_cat (k := k) (b := b) (by omega))
          have S1 := Lib.hid (show (N.up k).size + (⟨#[64]⟩ : ByteArray).size ≤ 9223372036854775807 from by have := N.up_size (k := k) (by omega); have : (⟨#[64]⟩ : ByteArray).size = 1 := rfl; omega)
          have S2 := Lib.hid (show (N.up k ++ ⟨#[64]⟩).size + (N.tx b).size ≤ 9223372036854775807 from by have := N.up_size (k := k) (by omega); rw [ByteArray.size_append]; have : (⟨#[64]⟩ : ByteArray).size = 1 := rfl; have : (N.tx b).size = 2 := rfl; omega)
          clear hk hf hg hx hy hy0 h1 hc
          obtain ⟨u, hu⟩ : ∃ u, N.up k = u := ⟨_, rfl⟩
          obtain ⟨v, hv⟩ : ∃ v, N.tx b = v := ⟨_, rfl⟩
          rw [hu] at HL S1 S2 E
          rw [hv] at HT S2 E
          clear hu hv
          refine ⟨N.drop k b, HD.out, fun w => ?_⟩
          clear HN
          have hP := PMv.start w c (movC (b : Int) (b : Int) 0 (k : Int) false)
          have m0 := hP.m.cell 0
          rw [show (movC (b : Int) (b : Int) 0 (k : Int) false)[0]? = some (.int .i8 (b : Int)) from rfl] at m0
          have m1 := hP.m.cell 1
          rw [show (movC (b : Int) (b : Int) 0 (k : Int) false)[1]? = some (.int .i8 (b : Int)) from rfl] at m1
          have m2 := hP.m.cell 2
          rw [show (movC (b : Int) (b : Int) 0 (k : Int) false)[2]? = some (.int .u8 0) from rfl] at m2
          have m3 := hP.m.cell 3
          rw [show (movC (b : Int) (b : Int) 0 (k : Int) false)[3]? = some (.int .u8 (k : Int)) from rfl] at m3
          have m4 := hP.m.cell 4
          rw [show (movC (b : Int) (b : Int) 0 (k : Int) false)[4]? = some (.bool false) from rfl] at m4
          have H0 := Lib.hid hP
          clear hP
          go_enter Tryd.func9, Tryd.ntmps9
          go_upto_region 6 with (first
            | ((with_reducible refine wp_load_box rfl _ rfl ?_); refine ⟨_, c, rfl, H0.out.p, ?_⟩)
            | (go_at_call 14; (with_reducible refine (HKn.out _).mono ?_); rintro e w1 ⟨rfl, hb1⟩; have H1 := Lib.hid (H0.out.next hb1); have m0 := H1.out.m.cell 0; rw [show (movC (b : Int) (b : Int) 0 (k : Int) false)[0]? = some (.int .i8 (b : Int)) from rfl] at m0; have m1 := H1.out.m.cell 1; rw [show (movC (b : Int) (b : Int) 0 (k : Int) false)[1]? = some (.int .i8 (b : Int)) from rfl] at m1; have m2 := H1.out.m.cell 2; rw [show (movC (b : Int) (b : Int) 0 (k : Int) false)[2]? = some (.int .u8 0) from rfl] at m2; have m3 := H1.out.m.cell 3; rw [show (movC (b : Int) (b : Int) 0 (k : Int) false)[3]? = some (.int .u8 (k : Int)) from rfl] at m3; have m4 := H1.out.m.cell 4; rw [show (movC (b : Int) (b : Int) 0 (k : Int) false)[4]? = some (.bool false) from rfl] at m4; clear hb1)
            | (go_at_call 15; (with_reducible refine (HQf.out _).mono ?_); rintro e w2 ⟨rfl, rfl⟩)
            | (go_at_call 15; (with_reducible refine (HQg.out _).mono ?_); rintro e w2 ⟨rfl, rfl⟩))
          have lb := H1.out.m.lt
          refine region_below (by kernel_rfl) (by kernel_rfl) ?_
          try simp only [Act.put]
          repeat (first
            | (go_big_quiet_want; refine quiet_cat _ _ _ rfl ⟨u, ⟨#[64]⟩, rfl, rfl, S1.out, ?_⟩; simp only [Act.put, List.setIfInBounds_toArray, List.set_cons_succ, List.set_cons_zero]; go_big_quiet_on)
            | (go_big_quiet_want; refine quiet_cat _ _ _ rfl ⟨u ++ ⟨#[64]⟩, v, rfl, rfl, S2.out, ?_⟩; simp only [Act.put, List.setIfInBounds_toArray, List.set_cons_succ, List.set_cons_zero]; go_big_quiet_on)
            | go_big_quiet_step (first
              | (go_at_call 16; (with_reducible exact quiet_below_same (HL.out _)))
              | (go_at_call 17; (with_reducible exact quiet_below (HT.out _)))))
          refine wpQuiet_nil ?_
          intro w3 hb3
          have H3 := Lib.hid (H1.out.next hb3)
          clear hb3
          go_wp2
          go_ret
          exact ⟨by rw [← E.out]; rfl, H3.out.below⟩
        · refine ⟨⟨#[]⟩, HN.out (fun h => by cases h.2.2.2), fun w => ?_⟩
          clear hc hk hf hg hx hy hy0 h1 HN
          have hP := PMv.start w c (movC f f 0 y true)
          have m0 := hP.m.cell 0
          rw [show (movC f f 0 y true)[0]? = some (.int .i8 f) from rfl] at m0
          have m1 := hP.m.cell 1
          rw [show (movC f f 0 y true)[1]? = some (.int .i8 f) from rfl] at m1
          have m2 := hP.m.cell 2
          rw [show (movC f f 0 y true)[2]? = some (.int .u8 0) from rfl] at m2
          have m3 := hP.m.cell 3
          rw [show (movC f f 0 y true)[3]? = some (.int .u8 y) from rfl] at m3
          have m4 := hP.m.cell 4
          rw [show (movC f f 0 y true)[4]? = some (.bool true) from rfl] at m4
          have H0 := Lib.hid hP
          clear hP
          go_enter Tryd.func9, Tryd.ntmps9
          go_wp2_with (first
            | ((with_reducible refine wp_load_box rfl _ rfl ?_); refine ⟨_, c, rfl, H0.out.p, ?_⟩)
            | (go_at_call 14; (with_reducible refine (HKn.out _).mono ?_); rintro e w1 ⟨rfl, hb1⟩; have H1 := Lib.hid (H0.out.next hb1); have m0 := H1.out.m.cell 0; rw [show (movC f f 0 y true)[0]? = some (.int .i8 f) from rfl] at m0; have m1 := H1.out.m.cell 1; rw [show (movC f f 0 y true)[1]? = some (.int .i8 f) from rfl] at m1; have m2 := H1.out.m.cell 2; rw [show (movC f f 0 y true)[2]? = some (.int .u8 0) from rfl] at m2; have m3 := H1.out.m.cell 3; rw [show (movC f f 0 y true)[3]? = some (.int .u8 y) from rfl] at m3; have m4 := H1.out.m.cell 4; rw [show (movC f f 0 y true)[4]? = some (.bool true) from rfl] at m4; clear hb1)
            | (go_at_call 15; (with_reducible refine (HQf.out _).mono ?_); rintro e w2 ⟨rfl, rfl⟩)
            | (go_at_call 15; (with_reducible refine (HQg.out _).mono ?_); rintro e w2 ⟨rfl, rfl⟩))
          go_ret
          exact ⟨rfl, H1.out.below⟩
      · have x0 : (x != 0) = true := by simpa using h3
        refine ⟨⟨#[]⟩, HN.out (fun h => h3 h.2.2.1), fun w => ?_⟩
        clear hc hk hf hg hx hy hy0 h1 h3 HN
        have hP := PMv.start w c (movC f f x y z)
        have m0 := hP.m.cell 0
        rw [show (movC f f x y z)[0]? = some (.int .i8 f) from rfl] at m0
        have m1 := hP.m.cell 1
        rw [show (movC f f x y z)[1]? = some (.int .i8 f) from rfl] at m1
        have m2 := hP.m.cell 2
        rw [show (movC f f x y z)[2]? = some (.int .u8 x) from rfl] at m2
        have m3 := hP.m.cell 3
        rw [show (movC f f x y z)[3]? = some (.int .u8 y) from rfl] at m3
        have m4 := hP.m.cell 4
        rw [show (movC f f x y z)[4]? = some (.bool z) from rfl] at m4
        have H0 := Lib.hid hP
        clear hP
        go_enter Tryd.func9, Tryd.ntmps9
        go_wp2_with (first
          | ((with_reducible refine wp_load_box rfl _ rfl ?_); refine ⟨_, c, rfl, H0.out.p, ?_⟩)
          | (go_at_call 14; (with_reducible refine (HKn.out _).mono ?_); rintro e w1 ⟨rfl, hb1⟩; have H1 := Lib.hid (H0.out.next hb1); have m0 := H1.out.m.cell 0; rw [show (movC f f x y z)[0]? = some (.int .i8 f) from rfl] at m0; have m1 := H1.out.m.cell 1; rw [show (movC f f x y z)[1]? = some (.int .i8 f) from rfl] at m1; have m2 := H1.out.m.cell 2; rw [show (movC f f x y z)[2]? = some (.int .u8 x) from rfl] at m2; have m3 := H1.out.m.cell 3; rw [show (movC f f x y z)[3]? = some (.int .u8 y) from rfl] at m3; have m4 := H1.out.m.cell 4; rw [show (movC f f x y z)[4]? = some (.bool z) from rfl] at m4; clear hb1)
          | (go_at_call 15; (with_reducible refine (HQf.out _).mono ?_); rintro e w2 ⟨rfl, rfl⟩)
          | (go_at_call 15; (with_reducible refine (HQg.out _).mono ?_); rintro e w2 ⟨rfl, rfl⟩))
        go_ret
        exact ⟨rfl, H1.out.below⟩
    · have fg : (f != g) = true := by simpa using h2
      refine ⟨⟨#[]⟩, HN.out (fun h => h2 h.2.1), fun w => ?_⟩
      clear hc hk hf hg hx hy hy0 h1 h2 HN
      have hP := PMv.start w c (movC f g x y z)
      have m0 := hP.m.cell 0
      rw [show (movC f g x y z)[0]? = some (.int .i8 f) from rfl] at m0
      have m1 := hP.m.cell 1
      rw [show (movC f g x y z)[1]? = some (.int .i8 g) from rfl] at m1
      have m2 := hP.m.cell 2
      rw [show (movC f g x y z)[2]? = some (.int .u8 x) from rfl] at m2
      have m3 := hP.m.cell 3
      rw [show (movC f g x y z)[3]? = some (.int .u8 y) from rfl] at m3
      have m4 := hP.m.cell 4
      rw [show (movC f g x y z)[4]? = some (.bool z) from rfl] at m4
      have H0 := Lib.hid hP
      clear hP
      go_enter Tryd.func9, Tryd.ntmps9
      go_wp2_with (first
        | ((with_reducible refine wp_load_box rfl _ rfl ?_); refine ⟨_, c, rfl, H0.out.p, ?_⟩)
        | (go_at_call 14; (with_reducible refine (HKn.out _).mono ?_); rintro e w1 ⟨rfl, hb1⟩; have H1 := Lib.hid (H0.out.next hb1); have m0 := H1.out.m.cell 0; rw [show (movC f g x y z)[0]? = some (.int .i8 f) from rfl] at m0; have m1 := H1.out.m.cell 1; rw [show (movC f g x y z)[1]? = some (.int .i8 g) from rfl] at m1; have m2 := H1.out.m.cell 2; rw [show (movC f g x y z)[2]? = some (.int .u8 x) from rfl] at m2; have m3 := H1.out.m.cell 3; rw [show (movC f g x y z)[3]? = some (.int .u8 y) from rfl] at m3; have m4 := H1.out.m.cell 4; rw [show (movC f g x y z)[4]? = some (.bool z) from rfl] at m4; clear hb1)
        | (go_at_call 15; (with_reducible refine (HQf.out _).mono ?_); rintro e w2 ⟨rfl, rfl⟩)
        | (go_at_call 15; (with_reducible refine (HQg.out _).mono ?_); rintro e w2 ⟨rfl, rfl⟩))
      go_ret
      exact ⟨rfl, H1.out.below⟩
  · have y5 : decide (5 < y) = true := by simp; omega
    refine ⟨⟨#[]⟩, HN.out (fun h => h1 h.1), fun w => ?_⟩
    clear hc hk hf hg hx hy hy0 h1 HN
    have hP := PMv.start w c (movC f g x y z)
    have m0 := hP.m.cell 0
    rw [show (movC f g x y z)[0]? = some (.int .i8 f) from rfl] at m0
    have m1 := hP.m.cell 1
    rw [show (movC f g x y z)[1]? = some (.int .i8 g) from rfl] at m1
    have m2 := hP.m.cell 2
    rw [show (movC f g x y z)[2]? = some (.int .u8 x) from rfl] at m2
    have m3 := hP.m.cell 3
    rw [show (movC f g x y z)[3]? = some (.int .u8 y) from rfl] at m3
    have m4 := hP.m.cell 4
    rw [show (movC f g x y z)[4]? = some (.bool z) from rfl] at m4
    have H0 := Lib.hid hP
    clear hP
    go_enter Tryd.func9, Tryd.ntmps9
    go_wp2_with (first
      | ((with_reducible refine wp_load_box rfl _ rfl ?_); refine ⟨_, c, rfl, H0.out.p, ?_⟩)
      | (go_at_call 14; (with_reducible refine (HKn.out _).mono ?_); rintro e w1 ⟨rfl, hb1⟩; have H1 := Lib.hid (H0.out.next hb1); have m0 := H1.out.m.cell 0; rw [show (movC f g x y z)[0]? = some (.int .i8 f) from rfl] at m0; have m1 := H1.out.m.cell 1; rw [show (movC f g x y z)[1]? = some (.int .i8 g) from rfl] at m1; have m2 := H1.out.m.cell 2; rw [show (movC f g x y z)[2]? = some (.int .u8 x) from rfl] at m2; have m3 := H1.out.m.cell 3; rw [show (movC f g x y z)[3]? = some (.int .u8 y) from rfl] at m3; have m4 := H1.out.m.cell 4; rw [show (movC f g x y z)[4]? = some (.bool z) from rfl] at m4; clear hb1)
      | (go_at_call 15; (with_reducible refine (HQf.out _).mono ?_); rintro e w2 ⟨rfl, rfl⟩)
      | (go_at_call 15; (with_reducible refine (HQg.out _).mono ?_); rintro e w2 ⟨rfl, rfl⟩))
    go_ret
    exact ⟨rfl, H1.out.below⟩

set_option maxRecDepth 100000 in
set_option maxHeartbeats 4000000 in
/-- Moves that drop nothing. -/
theorem mvTextC (c : Nat → Int) (a b k : Nat) (z : Bool) (hc : PosOk c) (hk : N.known c) (ha : a < 64) (hb : b < 64) (hx : k = 0 ∨ (2 ≤ k ∧ k ≤ 6)) : ∃ s, N.TextEnd c (a : Int) (b : Int) (k : Int) 0 z s ∧ ∀ w, Calls Tryd.prog 9 #[.agg (posC c), .agg (movC (a : Int) (b : Int) (k : Int) 0 z)] w fun e w' => e = .returned (.string s) ∧ Below w.heap.size w w' := by
  have HQf : Hid (∀ W, Calls Tryd.prog 15 #[.int .i8 (a : Int)] W fun e w' => e = .returned (.bool (N.sq (a : Int))) ∧ W = w') := Lib.hid (fun W => mvsquare_any _ W)
  have HQg : Hid (∀ W, Calls Tryd.prog 15 #[.int .i8 (b : Int)] W fun e w' => e = .returned (.bool (N.sq (b : Int))) ∧ W = w') := Lib.hid (fun W => mvsquare_any _ W)
  have HKn : Hid (∀ W, Calls Tryd.prog 14 #[.agg (posC c)] W fun e w' => e = .returned (.bool (N.kn c)) ∧ Below W.heap.size W w') := Lib.hid (fun W => mvknown_any c W)
  have k1 : N.kn c = true := (N.kn_iff hc).2 hk
  have k2 : N.sq (a : Int) = true := N.sq_iff.2 (by omega)
  have k3 : N.sq (b : Int) = true := N.sq_iff.2 (by omega)
  rw [k1] at HKn
  rw [k2] at HQf
  rw [k3] at HQg
  have p6 : decide (6 < (k : Int)) = false := by simp; omega
  have p1 : ((k : Int) == 1) = false := by simp; omega
  clear k1 k2 k3
  by_cases h1 : a = b
  · subst h1
    refine ⟨⟨#[]⟩, N.text_same (.inl rfl), fun w => ?_⟩
    clear hc hk ha hb hx
    have hP := PMv.start w c (movC (a : Int) (a : Int) (k : Int) 0 z)
    have m0 := hP.m.cell 0
    rw [show (movC (a : Int) (a : Int) (k : Int) 0 z)[0]? = some (.int .i8 (a : Int)) from rfl] at m0
    have m1 := hP.m.cell 1
    rw [show (movC (a : Int) (a : Int) (k : Int) 0 z)[1]? = some (.int .i8 (a : Int)) from rfl] at m1
    have m2 := hP.m.cell 2
    rw [show (movC (a : Int) (a : Int) (k : Int) 0 z)[2]? = some (.int .u8 (k : Int)) from rfl] at m2
    have m3 := hP.m.cell 3
    rw [show (movC (a : Int) (a : Int) (k : Int) 0 z)[3]? = some (.int .u8 0) from rfl] at m3
    have m4 := hP.m.cell 4
    rw [show (movC (a : Int) (a : Int) (k : Int) 0 z)[4]? = some (.bool z) from rfl] at m4
    have H0 := Lib.hid hP
    clear hP
    go_enter Tryd.func9, Tryd.ntmps9
    go_wp2_with (first
      | ((with_reducible refine wp_load_box rfl _ rfl ?_); refine ⟨_, c, rfl, H0.out.p, ?_⟩)
      | (go_at_call 14; (with_reducible refine (HKn.out _).mono ?_); rintro e w1 ⟨rfl, hb1⟩; have H1 := Lib.hid (H0.out.next hb1); have m0 := H1.out.m.cell 0; rw [show (movC (a : Int) (a : Int) (k : Int) 0 z)[0]? = some (.int .i8 (a : Int)) from rfl] at m0; have m1 := H1.out.m.cell 1; rw [show (movC (a : Int) (a : Int) (k : Int) 0 z)[1]? = some (.int .i8 (a : Int)) from rfl] at m1; have m2 := H1.out.m.cell 2; rw [show (movC (a : Int) (a : Int) (k : Int) 0 z)[2]? = some (.int .u8 (k : Int)) from rfl] at m2; have m3 := H1.out.m.cell 3; rw [show (movC (a : Int) (a : Int) (k : Int) 0 z)[3]? = some (.int .u8 0) from rfl] at m3; have m4 := H1.out.m.cell 4; rw [show (movC (a : Int) (a : Int) (k : Int) 0 z)[4]? = some (.bool z) from rfl] at m4; clear hb1)
      | (go_at_call 15; (with_reducible refine (HQf.out _).mono ?_); rintro e w2 ⟨rfl, rfl⟩)
      | (go_at_call 15; (with_reducible refine (HQg.out _).mono ?_); rintro e w2 ⟨rfl, rfl⟩))
    go_ret
    exact ⟨rfl, H1.out.below⟩
  · have fg : ((a : Int) == (b : Int)) = false := by simp; omega
    cases z
    · have HP : Hid (∀ W, Calls Tryd.prog 19 #[.agg (movC (a : Int) (b : Int) (k : Int) 0 false)] W fun e w' => e = .returned (.string (N.walk a b k)) ∧ Below W.heap.size W w') := Lib.hid (fun W => mvplain_any a b k 0 false W ha hb (by omega) (by omega))
      obtain ⟨p, q, t, ok, hR, hz, hRC⟩ := mvrook_fix c (N.walk a b k) hk (by have := N.walk_size a b k; omega)
      have HR := Lib.hid hRC
      have hD := N.text_walk hk ha hb h1 hx hR
      clear hz hRC hR hc hk ha hb hx h1
      cases ok
      · have HD := Lib.hid hD
        rw [if_neg (by simp)] at HD
        clear hD
        refine ⟨N.walk a b k, HD.out, fun w => ?_⟩
        clear HD
        obtain ⟨S, hS⟩ : ∃ S, N.walk a b k = S := ⟨_, rfl⟩
        rw [hS] at HP HR ⊢
        clear hS
        have hP := PMv.start w c (movC (a : Int) (b : Int) (k : Int) 0 false)
        have m0 := hP.m.cell 0
        rw [show (movC (a : Int) (b : Int) (k : Int) 0 false)[0]? = some (.int .i8 (a : Int)) from rfl] at m0
        have m1 := hP.m.cell 1
        rw [show (movC (a : Int) (b : Int) (k : Int) 0 false)[1]? = some (.int .i8 (b : Int)) from rfl] at m1
        have m2 := hP.m.cell 2
        rw [show (movC (a : Int) (b : Int) (k : Int) 0 false)[2]? = some (.int .u8 (k : Int)) from rfl] at m2
        have m3 := hP.m.cell 3
        rw [show (movC (a : Int) (b : Int) (k : Int) 0 false)[3]? = some (.int .u8 0) from rfl] at m3
        have m4 := hP.m.cell 4
        rw [show (movC (a : Int) (b : Int) (k : Int) 0 false)[4]? = some (.bool false) from rfl] at m4
        have H0 := Lib.hid hP
        clear hP
        go_enter Tryd.func9, Tryd.ntmps9
        go_wp2_with (first
          | ((with_reducible refine wp_load_box rfl _ rfl ?_); refine ⟨_, c, rfl, H0.out.p, ?_⟩)
          | (go_at_call 14; (with_reducible refine (HKn.out _).mono ?_); rintro e w1 ⟨rfl, hb1⟩; have H1 := Lib.hid (H0.out.next hb1); have m0 := H1.out.m.cell 0; rw [show (movC (a : Int) (b : Int) (k : Int) 0 false)[0]? = some (.int .i8 (a : Int)) from rfl] at m0; have m1 := H1.out.m.cell 1; rw [show (movC (a : Int) (b : Int) (k : Int) 0 false)[1]? = some (.int .i8 (b : Int)) from rfl] at m1; have m2 := H1.out.m.cell 2; rw [show (movC (a : Int) (b : Int) (k : Int) 0 false)[2]? = some (.int .u8 (k : Int)) from rfl] at m2; have m3 := H1.out.m.cell 3; rw [show (movC (a : Int) (b : Int) (k : Int) 0 false)[3]? = some (.int .u8 0) from rfl] at m3; have m4 := H1.out.m.cell 4; rw [show (movC (a : Int) (b : Int) (k : Int) 0 false)[4]? = some (.bool false) from rfl] at m4; clear hb1)
          | (go_at_call 15; (with_reducible refine (HQf.out _).mono ?_); rintro e w2 ⟨rfl, rfl⟩)
          | (go_at_call 15; (with_reducible refine (HQg.out _).mono ?_); rintro e w2 ⟨rfl, rfl⟩)
          | ((with_reducible refine wp_load_box rfl _ rfl ?_); refine ⟨_, c, rfl, H3.out.p, ?_⟩)
          | ((with_reducible refine mv_load_rowG rfl 33 _ rfl Tryd.underlying33 rfl ?_); refine ⟨_, _, _, rfl, H1.out.m, Tryd.info_mvB _ _ _ _ _, ?_⟩)
          | (go_at_call 19; (with_reducible refine (HP.out _).mono ?_); rintro e w3 ⟨rfl, hb3⟩; have H3 := Lib.hid (H1.out.next hb3); clear hb3)
          | (go_at_call 20; (with_reducible refine (HR.out _).mono ?_); rintro e w4 ⟨rfl, hb4⟩; have H4 := Lib.hid (H3.out.next hb4); clear hb4)
          | ((with_reducible refine wp_store_row' rfl 33 _ _ rfl ?_); refine ⟨w4.heap.size, 33, movC p q 0 0 t, rfl, rfl, ⟨_, heap_alloc_new _ _, (by kernel_rfl)⟩, Tryd.info_mvB _ _ _ _ _, Tryd.one_mvB _ _ _ _ _, ?_⟩; intro V hV hq; have H5 := Lib.hid (hV.below (H4.out.below.alloc H4.out.below.size _) H4.out.below.size); clear hV hq))
        refine bodyPost_ret (v := .string S) ?_ rfl ⟨rfl, H5.out⟩
        exact results_tmp Tryd.results9 _ _ _
      · have HD := Lib.hid hD
        rw [if_pos rfl] at HD
        clear hD
        refine ⟨⟨#[]⟩, HD.out, fun w => ?_⟩
        clear HD
        obtain ⟨S, hS⟩ : ∃ S, N.walk a b k = S := ⟨_, rfl⟩
        rw [hS] at HP HR
        clear hS
        have hP := PMv.start w c (movC (a : Int) (b : Int) (k : Int) 0 false)
        have m0 := hP.m.cell 0
        rw [show (movC (a : Int) (b : Int) (k : Int) 0 false)[0]? = some (.int .i8 (a : Int)) from rfl] at m0
        have m1 := hP.m.cell 1
        rw [show (movC (a : Int) (b : Int) (k : Int) 0 false)[1]? = some (.int .i8 (b : Int)) from rfl] at m1
        have m2 := hP.m.cell 2
        rw [show (movC (a : Int) (b : Int) (k : Int) 0 false)[2]? = some (.int .u8 (k : Int)) from rfl] at m2
        have m3 := hP.m.cell 3
        rw [show (movC (a : Int) (b : Int) (k : Int) 0 false)[3]? = some (.int .u8 0) from rfl] at m3
        have m4 := hP.m.cell 4
        rw [show (movC (a : Int) (b : Int) (k : Int) 0 false)[4]? = some (.bool false) from rfl] at m4
        have H0 := Lib.hid hP
        clear hP
        go_enter Tryd.func9, Tryd.ntmps9
        go_wp2_with (first
          | ((with_reducible refine wp_load_box rfl _ rfl ?_); refine ⟨_, c, rfl, H0.out.p, ?_⟩)
          | (go_at_call 14; (with_reducible refine (HKn.out _).mono ?_); rintro e w1 ⟨rfl, hb1⟩; have H1 := Lib.hid (H0.out.next hb1); have m0 := H1.out.m.cell 0; rw [show (movC (a : Int) (b : Int) (k : Int) 0 false)[0]? = some (.int .i8 (a : Int)) from rfl] at m0; have m1 := H1.out.m.cell 1; rw [show (movC (a : Int) (b : Int) (k : Int) 0 false)[1]? = some (.int .i8 (b : Int)) from rfl] at m1; have m2 := H1.out.m.cell 2; rw [show (movC (a : Int) (b : Int) (k : Int) 0 false)[2]? = some (.int .u8 (k : Int)) from rfl] at m2; have m3 := H1.out.m.cell 3; rw [show (movC (a : Int) (b : Int) (k : Int) 0 false)[3]? = some (.int .u8 0) from rfl] at m3; have m4 := H1.out.m.cell 4; rw [show (movC (a : Int) (b : Int) (k : Int) 0 false)[4]? = some (.bool false) from rfl] at m4; clear hb1)
          | (go_at_call 15; (with_reducible refine (HQf.out _).mono ?_); rintro e w2 ⟨rfl, rfl⟩)
          | (go_at_call 15; (with_reducible refine (HQg.out _).mono ?_); rintro e w2 ⟨rfl, rfl⟩)
          | ((with_reducible refine wp_load_box rfl _ rfl ?_); refine ⟨_, c, rfl, H3.out.p, ?_⟩)
          | ((with_reducible refine mv_load_rowG rfl 33 _ rfl Tryd.underlying33 rfl ?_); refine ⟨_, _, _, rfl, H1.out.m, Tryd.info_mvB _ _ _ _ _, ?_⟩)
          | (go_at_call 19; (with_reducible refine (HP.out _).mono ?_); rintro e w3 ⟨rfl, hb3⟩; have H3 := Lib.hid (H1.out.next hb3); clear hb3)
          | (go_at_call 20; (with_reducible refine (HR.out _).mono ?_); rintro e w4 ⟨rfl, hb4⟩; have H4 := Lib.hid (H3.out.next hb4); clear hb4)
          | ((with_reducible refine wp_store_row' rfl 33 _ _ rfl ?_); refine ⟨w4.heap.size, 33, movC p q 0 0 t, rfl, rfl, ⟨_, heap_alloc_new _ _, (by kernel_rfl)⟩, Tryd.info_mvB _ _ _ _ _, Tryd.one_mvB _ _ _ _ _, ?_⟩; intro V hV hq; have H5 := Lib.hid (hV.below (H4.out.below.alloc H4.out.below.size _) H4.out.below.size); clear hV hq))
        go_ret
        exact ⟨rfl, H5.out⟩
    · by_cases h2 : k = 0
      · subst h2
        have HC : Hid (∀ W, Calls Tryd.prog 18 #[.agg (posC c), .agg (movC (a : Int) (b : Int) 0 0 true)] W fun e w' => e = .returned (.string (N.cas c a b)) ∧ Below W.heap.size W w') := Lib.hid (fun W => mvcastles_any c a b W hk ha hb)
        have HD := Lib.hid (N.text_cas hk ha hb h1)
        clear hc hk ha hb hx h1
        refine ⟨N.cas c a b, HD.out, fun w => ?_⟩
        clear HD
        obtain ⟨S, hS⟩ : ∃ S, N.cas c a b = S := ⟨_, rfl⟩
        rw [hS] at HC ⊢
        clear hS
        have hP := PMv.start w c (movC (a : Int) (b : Int) 0 0 true)
        have m0 := hP.m.cell 0
        rw [show (movC (a : Int) (b : Int) 0 0 true)[0]? = some (.int .i8 (a : Int)) from rfl] at m0
        have m1 := hP.m.cell 1
        rw [show (movC (a : Int) (b : Int) 0 0 true)[1]? = some (.int .i8 (b : Int)) from rfl] at m1
        have m2 := hP.m.cell 2
        rw [show (movC (a : Int) (b : Int) 0 0 true)[2]? = some (.int .u8 0) from rfl] at m2
        have m3 := hP.m.cell 3
        rw [show (movC (a : Int) (b : Int) 0 0 true)[3]? = some (.int .u8 0) from rfl] at m3
        have m4 := hP.m.cell 4
        rw [show (movC (a : Int) (b : Int) 0 0 true)[4]? = some (.bool true) from rfl] at m4
        have H0 := Lib.hid hP
        clear hP
        go_enter Tryd.func9, Tryd.ntmps9
        go_wp2_with (first
          | ((with_reducible refine wp_load_box rfl _ rfl ?_); refine ⟨_, c, rfl, H0.out.p, ?_⟩)
          | (go_at_call 14; (with_reducible refine (HKn.out _).mono ?_); rintro e w1 ⟨rfl, hb1⟩; have H1 := Lib.hid (H0.out.next hb1); have m0 := H1.out.m.cell 0; rw [show (movC (a : Int) (b : Int) 0 0 true)[0]? = some (.int .i8 (a : Int)) from rfl] at m0; have m1 := H1.out.m.cell 1; rw [show (movC (a : Int) (b : Int) 0 0 true)[1]? = some (.int .i8 (b : Int)) from rfl] at m1; have m2 := H1.out.m.cell 2; rw [show (movC (a : Int) (b : Int) 0 0 true)[2]? = some (.int .u8 0) from rfl] at m2; have m3 := H1.out.m.cell 3; rw [show (movC (a : Int) (b : Int) 0 0 true)[3]? = some (.int .u8 0) from rfl] at m3; have m4 := H1.out.m.cell 4; rw [show (movC (a : Int) (b : Int) 0 0 true)[4]? = some (.bool true) from rfl] at m4; clear hb1)
          | (go_at_call 15; (with_reducible refine (HQf.out _).mono ?_); rintro e w2 ⟨rfl, rfl⟩)
          | (go_at_call 15; (with_reducible refine (HQg.out _).mono ?_); rintro e w2 ⟨rfl, rfl⟩)
          | ((with_reducible refine wp_load_box rfl _ rfl ?_); refine ⟨_, c, rfl, H1.out.p, ?_⟩)
          | ((with_reducible refine mv_load_rowG rfl 33 _ rfl Tryd.underlying33 rfl ?_); refine ⟨_, _, _, rfl, H1.out.m, Tryd.info_mvB _ _ _ _ _, ?_⟩)
          | (go_at_call 18; (with_reducible refine (HC.out _).mono ?_); rintro e w3 ⟨rfl, hb3⟩; have H3 := Lib.hid (H1.out.next hb3); clear hb3))
        go_ret
        exact ⟨rfl, H3.out.below⟩
      · have x0 : ((k : Int) != 0) = true := by simpa using h2
        refine ⟨⟨#[]⟩, N.text_same (.inr ⟨rfl, by omega⟩), fun w => ?_⟩
        clear hc hk ha hb hx h1 h2
        have hP := PMv.start w c (movC (a : Int) (b : Int) (k : Int) 0 true)
        have m0 := hP.m.cell 0
        rw [show (movC (a : Int) (b : Int) (k : Int) 0 true)[0]? = some (.int .i8 (a : Int)) from rfl] at m0
        have m1 := hP.m.cell 1
        rw [show (movC (a : Int) (b : Int) (k : Int) 0 true)[1]? = some (.int .i8 (b : Int)) from rfl] at m1
        have m2 := hP.m.cell 2
        rw [show (movC (a : Int) (b : Int) (k : Int) 0 true)[2]? = some (.int .u8 (k : Int)) from rfl] at m2
        have m3 := hP.m.cell 3
        rw [show (movC (a : Int) (b : Int) (k : Int) 0 true)[3]? = some (.int .u8 0) from rfl] at m3
        have m4 := hP.m.cell 4
        rw [show (movC (a : Int) (b : Int) (k : Int) 0 true)[4]? = some (.bool true) from rfl] at m4
        have H0 := Lib.hid hP
        clear hP
        go_enter Tryd.func9, Tryd.ntmps9
        go_wp2_with (first
          | ((with_reducible refine wp_load_box rfl _ rfl ?_); refine ⟨_, c, rfl, H0.out.p, ?_⟩)
          | (go_at_call 14; (with_reducible refine (HKn.out _).mono ?_); rintro e w1 ⟨rfl, hb1⟩; have H1 := Lib.hid (H0.out.next hb1); have m0 := H1.out.m.cell 0; rw [show (movC (a : Int) (b : Int) (k : Int) 0 true)[0]? = some (.int .i8 (a : Int)) from rfl] at m0; have m1 := H1.out.m.cell 1; rw [show (movC (a : Int) (b : Int) (k : Int) 0 true)[1]? = some (.int .i8 (b : Int)) from rfl] at m1; have m2 := H1.out.m.cell 2; rw [show (movC (a : Int) (b : Int) (k : Int) 0 true)[2]? = some (.int .u8 (k : Int)) from rfl] at m2; have m3 := H1.out.m.cell 3; rw [show (movC (a : Int) (b : Int) (k : Int) 0 true)[3]? = some (.int .u8 0) from rfl] at m3; have m4 := H1.out.m.cell 4; rw [show (movC (a : Int) (b : Int) (k : Int) 0 true)[4]? = some (.bool true) from rfl] at m4; clear hb1)
          | (go_at_call 15; (with_reducible refine (HQf.out _).mono ?_); rintro e w2 ⟨rfl, rfl⟩)
          | (go_at_call 15; (with_reducible refine (HQg.out _).mono ?_); rintro e w2 ⟨rfl, rfl⟩))
        go_ret
        exact ⟨rfl, H1.out.below⟩
/-- Any move's text, of any position. -/
theorem mvText_fix (c : Nat → Int) (f g x y : Int) (z : Bool) (hc : PosOk c) (hm : MovOk f g x y) : ∃ s, N.TextEnd c f g x y z s ∧ ∀ w, Calls Tryd.prog 9 #[.agg (posC c), .agg (movC f g x y z)] w fun e w' => e = .returned (.string s) ∧ Below w.heap.size w w' := by
  obtain ⟨_, _, hx0, hy0⟩ := hm
  by_cases h : N.known c ∧ ((0 ≤ f ∧ f < 64) ∧ (0 ≤ g ∧ g < 64)) ∧ (x = 0 ∨ (2 ≤ x ∧ x ≤ 6))
  · obtain ⟨hk, ⟨hf, hg⟩, hx⟩ := h
    by_cases hy : y = 0
    · subst hy
      obtain ⟨a, rfl⟩ : ∃ a : Nat, f = (a : Int) := ⟨f.toNat, by omega⟩
      obtain ⟨b, rfl⟩ : ∃ a : Nat, g = (a : Int) := ⟨g.toNat, by omega⟩
      obtain ⟨k, rfl⟩ : ∃ a : Nat, x = (a : Int) := ⟨x.toNat, by omega⟩
      exact mvTextC c a b k z hc hk (by omega) (by omega) (by omega)
    · exact mvTextB c f g x y z hc hk hf hg hx hy0.1 hy
  · exact mvTextA c f g x y z hc h hx0.1
end Go.Proofs.YtldpejeodhkgdaaDoor
