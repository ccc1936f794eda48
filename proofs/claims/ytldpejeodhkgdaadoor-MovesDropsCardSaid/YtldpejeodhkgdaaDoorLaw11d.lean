/- The law MovesDrops. -/
import Derived.Test.YtldpejeodhkgdaaDoorLaw11b
namespace Go.Proofs.YtldpejeodhkgdaaDoor
open Go.RowKit Go.Sort
attribute [local go_sem] Oper.semAt_some

namespace N
def by2 (b : Nat) (s : Nat) : ByteArray := ⟨#[UInt8.ofNat b, UInt8.ofNat 64]⟩ ++ tx s
theorem by2_list (b s : Nat) : by2 b s = ⟨([UInt8.ofNat b, UInt8.ofNat 64, UInt8.ofNat (97 + s % 8), UInt8.ofNat (49 + s / 8)] : List UInt8).toArray⟩ := rfl
theorem by2_no {c : Nat → Int} {b s : Nat} (hb : b < 256) (h1 : b ≠ 80) (h2 : b ≠ 78) (h3 : b ≠ 66) (h4 : b ≠ 82) (h5 : b ≠ 81) : ∀ f g x y z, ¬ Text c f g x y z (by2 b s) := no_text
  (fun k d hk _ e => by
    rw [by2_list] at e
    have e := list_of (b := [_, _, _, _]) e
    simp only [List.cons.injEq] at e
    have e1 := e.1
    rcases (show k = 1 ∨ k = 2 ∨ k = 3 ∨ k = 4 ∨ k = 5 by omega) with rfl | rfl | rfl | rfl | rfl
    · exact h1 (ofNat_inj hb (by omega) e1)
    · exact h2 (ofNat_inj hb (by omega) e1)
    · exact h3 (ofNat_inj hb (by omega) e1)
    · exact h4 (ofNat_inj hb (by omega) e1)
    · exact h5 (ofNat_inj hb (by omega) e1))
  (fun a d k ha hd hne _ e => by
    rw [by2_list] at e
    have e := list_of e
    simp only [List.cons.injEq] at e
    have e2 := byte_eq (n := 64) (by omega) (by omega) e.2.1
    omega)
theorem by2_size (b s : Nat) : (by2 b s).size ≤ 9223372036854775807 := Nat.le_of_ble_eq_true rfl
end N

set_option maxRecDepth 100000 in
set_option maxHeartbeats 8000000 in
theorem movesDrops_1 (c : Nat → Int) (s : Nat) (k : Int) (w : World) (hc : PosOk c) (hk : N.known c) (hs : s < 64) (hk0 : 0 ≤ k ∧ k ≤ 255) :
    Calls Tryd.prog 7 #[.agg (posC c), .int .i8 (s : Int), .int .u8 k, .int .u8 80] w fun e w' => e = .returned (.bool true) ∧ Below w.heap.size w w' := by
  have H0 := Lib.hid (And.intro (PosAt.new w c) ((Below.refl _ w).alloc (Nat.le_refl _) (.cells (posC c) 31)))
  have HSq : Hid (∀ W, Calls Tryd.prog 13 #[.int .i64 (s : Int)] W fun e w' => e = .returned (.string (N.tx s)) ∧ Below W.heap.size W w') := Lib.hid (fun W => sqtext_any s W hs)
  have hk0' := hk.1
  have hk1' := hk.2
  have d0 : decide (9 ≤ c 0) = false := by simp; omega
  have d1 : decide (1 < c 78) = false := by simp; omega
  have d2 : decide ((s : Int) < 0) = false := by simp
  have d3 : decide (63 < (s : Int)) = false := by simp; omega
  have ws := i8_i64 hs
  clear hk0' hk1'
  obtain ⟨S, hT, hTC⟩ := mvText_fix c (s : Int) (s : Int) 0 k false hc (by unfold MovOk; omega)
  have HT0 := Lib.hid hTC
  have HT : Hid (∀ W, Calls Tryd.prog 9 #[.agg (posC c), .agg #[.int .i8 (s : Int), .int .i8 (s : Int), .int .u8 0, .int .u8 k, .bool false]] W fun e w' => e = .returned (.string S) ∧ Below W.heap.size W w') := Lib.hid HT0.out
  clear hTC HT0
  obtain ⟨f2, g2, x2, y2, z2, e2, hP, hPC⟩ := mvParse_fix c (N.by2 80 s) hc (N.by2_size _ _)
  obtain ⟨rfl, rfl, rfl, rfl, rfl, rfl⟩ := N.parse_ok hP (show N.Text c (s : Int) (s : Int) 0 1 false (N.by2 80 s) from ⟨hk, ⟨by omega, by omega⟩, .inl ⟨by omega, rfl, rfl, rfl, rfl⟩⟩)
  have HP : Hid (∀ W, Calls Tryd.prog 12 #[.agg (posC c), .string (⟨#[UInt8.ofNat 80, UInt8.ofNat 64]⟩ ++ N.tx s)] W fun e w' => e = .returned (.tuple #[.agg (movC (s : Int) (s : Int) 0 1 false), .int .i64 0]) ∧ Below W.heap.size W w') := Lib.hid hPC
  have z3 : (⟨#[UInt8.ofNat 80, UInt8.ofNat 64]⟩ : ByteArray).size + (N.tx s).size ≤ 9223372036854775807 := Nat.le_of_ble_eq_true rfl
  have hcv : ∀ W : World, (convert 44 9 (.slice (some ⟨W.heap.size, 0, none⟩) 2 2)).run Tryd.prog (W.alloc (.cells #[.int .u8 80, .int .u8 64] 5)) = .ok (.string ⟨#[UInt8.ofNat 80, UInt8.ofNat 64]⟩) (W.alloc (.cells #[.int .u8 80, .int .u8 64] 5)) := fun W => two_bytes 80 64 W (by decide) (by decide)
  generalize (⟨#[UInt8.ofNat 80, UInt8.ofNat 64]⟩ : ByteArray) = BS at *
  clear hPC hP hc
  by_cases h0 : k = 0
  · subst h0
    obtain rfl : S = ⟨#[]⟩ := N.textEnd_one hT (N.text_same (.inl rfl))
    clear hT hk hs
    generalize N.tx s = TX at *
    go_enter Tryd.func7, Tryd.ntmps7
    go_wp2_with (first
      | (go_at_call 11; (with_reducible refine (awake11_any _).mono ?_); rintro r w1 ⟨rfl, hb⟩; have H1 := Lib.hid (And.intro (H0.out.1.below hb) (below_next H0.out.2 hb)); have c0 := H1.out.1.cell (i := 0) (by decide); have c78 := H1.out.1.cell (i := 78) (by decide); rw [show pk 0 = .u8 from rfl] at c0; rw [show pk 78 = .u8 from rfl] at c78; clear hb)
      | (go_at_call 13; (with_reducible refine (HSq.out _).mono ?_); rintro r w2 ⟨rfl, hb⟩; have H2 := Lib.hid (And.intro (H1.out.1.below hb) (below_next H1.out.2 hb)); clear hb)
      | ((with_reducible refine wp_load_box_g rfl _ rfl ?_); refine ⟨_, c, rfl, H3.out.1, ?_⟩)
      | ((with_reducible refine wp_load_box_g rfl _ rfl ?_); refine ⟨_, c, rfl, H2.out.1, ?_⟩)
      | (go_at_call 9; (with_reducible refine (HT.out _).mono ?_); rintro r w3 ⟨rfl, hb⟩; have H3 := Lib.hid (And.intro (H2.out.1.below hb) (below_next H2.out.2 hb)); clear hb)
      | (go_at_call 12; (with_reducible refine (HP.out _).mono ?_); rintro r w4 ⟨rfl, hb⟩; have H4 := Lib.hid (below_next (H3.out.2.alloc H3.out.2.size _) hb); clear hb)
      | ((with_reducible refine wp_store_row' rfl 33 _ _ rfl ?_); refine ⟨w4.heap.size, 33, movC (s : Int) (s : Int) 0 1 false, rfl, rfl, ⟨_, heap_alloc_new _ _, (by kernel_rfl)⟩, Tryd.info_mvB _ _ _ _ _, Tryd.one_mvB _ _ _ _ _, ?_⟩; intro W5 hP hq; have H5 := Lib.hid (And.intro hq (hP.below (H4.out.alloc H4.out.size _) H4.out.size)); have m0 := H5.out.1.cell 0; have m1 := H5.out.1.cell 1; have m2 := H5.out.1.cell 2; have m3 := H5.out.1.cell 3; have m4 := H5.out.1.cell 4; rw [show (movC (s : Int) (s : Int) 0 1 false)[0]? = some (.int .i8 (s : Int)) from rfl] at m0; rw [show (movC (s : Int) (s : Int) 0 1 false)[1]? = some (.int .i8 (s : Int)) from rfl] at m1; rw [show (movC (s : Int) (s : Int) 0 1 false)[2]? = some (.int .u8 0) from rfl] at m2; rw [show (movC (s : Int) (s : Int) 0 1 false)[3]? = some (.int .u8 1) from rfl] at m3; rw [show (movC (s : Int) (s : Int) 0 1 false)[4]? = some (.bool false) from rfl] at m4; clear hP hq))
    go_ret
    exact ⟨by first | rfl | simp, H5.out.2⟩
  by_cases h1 : k = 1
  · subst h1
    obtain rfl : S = N.drop 1 s := N.textEnd_one hT (N.text_drop hk (by omega) (by omega) (by decide) rfl rfl rfl)
    have hcat : ((⟨#[46, 80, 78, 66, 82, 81]⟩ : ByteArray).extract 1 2 ++ ⟨#[64]⟩) ++ N.tx s = N.drop 1 s := rfl
    have z1 : ((⟨#[46, 80, 78, 66, 82, 81]⟩ : ByteArray).extract 1 2).size + (⟨#[64]⟩ : ByteArray).size ≤ 9223372036854775807 := Nat.le_of_ble_eq_true rfl
    have z2 : ((⟨#[46, 80, 78, 66, 82, 81]⟩ : ByteArray).extract 1 2 ++ ⟨#[64]⟩).size + (N.tx s).size ≤ 9223372036854775807 := Nat.le_of_ble_eq_true rfl
    have hne : (N.drop 1 s).toList.isEmpty = false := by rw [← Bool.not_eq_true, N.empty_list]; exact fun e => absurd (N.list_of (b := []) e) (by simp)
    clear hT hk hs
    generalize N.drop 1 s = D at *
    generalize N.tx s = TX at *
    go_enter Tryd.func7, Tryd.ntmps7
    go_wp2_with (first
      | (go_at_call 11; (with_reducible refine (awake11_any _).mono ?_); rintro r w1 ⟨rfl, hb⟩; have H1 := Lib.hid (And.intro (H0.out.1.below hb) (below_next H0.out.2 hb)); have c0 := H1.out.1.cell (i := 0) (by decide); have c78 := H1.out.1.cell (i := 78) (by decide); rw [show pk 0 = .u8 from rfl] at c0; rw [show pk 78 = .u8 from rfl] at c78; clear hb)
      | (go_at_call 13; (with_reducible refine (HSq.out _).mono ?_); rintro r w2 ⟨rfl, hb⟩; have H2 := Lib.hid (And.intro (H1.out.1.below hb) (below_next H1.out.2 hb)); clear hb)
      | ((with_reducible refine wp_load_box_g rfl _ rfl ?_); refine ⟨_, c, rfl, H3.out.1, ?_⟩)
      | ((with_reducible refine wp_load_box_g rfl _ rfl ?_); refine ⟨_, c, rfl, H2.out.1, ?_⟩)
      | (go_at_call 9; (with_reducible refine (HT.out _).mono ?_); rintro r w3 ⟨rfl, hb⟩; have H3 := Lib.hid (And.intro (H2.out.1.below hb) (below_next H2.out.2 hb)); clear hb)
      | (go_at_call 12; (with_reducible refine (HP.out _).mono ?_); rintro r w4 ⟨rfl, hb⟩; have H4 := Lib.hid (below_next (H3.out.2.alloc H3.out.2.size _) hb); clear hb)
      | ((with_reducible refine wp_store_row' rfl 33 _ _ rfl ?_); refine ⟨w4.heap.size, 33, movC (s : Int) (s : Int) 0 1 false, rfl, rfl, ⟨_, heap_alloc_new _ _, (by kernel_rfl)⟩, Tryd.info_mvB _ _ _ _ _, Tryd.one_mvB _ _ _ _ _, ?_⟩; intro W5 hP hq; have H5 := Lib.hid (And.intro hq (hP.below (H4.out.alloc H4.out.size _) H4.out.size)); have m0 := H5.out.1.cell 0; have m1 := H5.out.1.cell 1; have m2 := H5.out.1.cell 2; have m3 := H5.out.1.cell 3; have m4 := H5.out.1.cell 4; rw [show (movC (s : Int) (s : Int) 0 1 false)[0]? = some (.int .i8 (s : Int)) from rfl] at m0; rw [show (movC (s : Int) (s : Int) 0 1 false)[1]? = some (.int .i8 (s : Int)) from rfl] at m1; rw [show (movC (s : Int) (s : Int) 0 1 false)[2]? = some (.int .u8 0) from rfl] at m2; rw [show (movC (s : Int) (s : Int) 0 1 false)[3]? = some (.int .u8 1) from rfl] at m3; rw [show (movC (s : Int) (s : Int) 0 1 false)[4]? = some (.bool false) from rfl] at m4; clear hP hq))
    go_ret
    exact ⟨by first | rfl | simp, H5.out.2⟩
  by_cases h2 : k = 2
  · subst h2
    obtain rfl : S = N.drop 2 s := N.textEnd_one hT (N.text_drop hk (by omega) (by omega) (by decide) rfl rfl rfl)
    have hcat : ((⟨#[46, 80, 78, 66, 82, 81]⟩ : ByteArray).extract 2 3 ++ ⟨#[64]⟩) ++ N.tx s = N.drop 2 s := rfl
    have z1 : ((⟨#[46, 80, 78, 66, 82, 81]⟩ : ByteArray).extract 2 3).size + (⟨#[64]⟩ : ByteArray).size ≤ 9223372036854775807 := Nat.le_of_ble_eq_true rfl
    have z2 : ((⟨#[46, 80, 78, 66, 82, 81]⟩ : ByteArray).extract 2 3 ++ ⟨#[64]⟩).size + (N.tx s).size ≤ 9223372036854775807 := Nat.le_of_ble_eq_true rfl
    have hne : (N.drop 2 s).toList.isEmpty = false := by rw [← Bool.not_eq_true, N.empty_list]; exact fun e => absurd (N.list_of (b := []) e) (by simp)
    clear hT hk hs
    generalize N.drop 2 s = D at *
    generalize N.tx s = TX at *
    go_enter Tryd.func7, Tryd.ntmps7
    go_wp2_with (first
      | (go_at_call 11; (with_reducible refine (awake11_any _).mono ?_); rintro r w1 ⟨rfl, hb⟩; have H1 := Lib.hid (And.intro (H0.out.1.below hb) (below_next H0.out.2 hb)); have c0 := H1.out.1.cell (i := 0) (by decide); have c78 := H1.out.1.cell (i := 78) (by decide); rw [show pk 0 = .u8 from rfl] at c0; rw [show pk 78 = .u8 from rfl] at c78; clear hb)
      | (go_at_call 13; (with_reducible refine (HSq.out _).mono ?_); rintro r w2 ⟨rfl, hb⟩; have H2 := Lib.hid (And.intro (H1.out.1.below hb) (below_next H1.out.2 hb)); clear hb)
      | ((with_reducible refine wp_load_box_g rfl _ rfl ?_); refine ⟨_, c, rfl, H3.out.1, ?_⟩)
      | ((with_reducible refine wp_load_box_g rfl _ rfl ?_); refine ⟨_, c, rfl, H2.out.1, ?_⟩)
      | (go_at_call 9; (with_reducible refine (HT.out _).mono ?_); rintro r w3 ⟨rfl, hb⟩; have H3 := Lib.hid (And.intro (H2.out.1.below hb) (below_next H2.out.2 hb)); clear hb)
      | (go_at_call 12; (with_reducible refine (HP.out _).mono ?_); rintro r w4 ⟨rfl, hb⟩; have H4 := Lib.hid (below_next (H3.out.2.alloc H3.out.2.size _) hb); clear hb)
      | ((with_reducible refine wp_store_row' rfl 33 _ _ rfl ?_); refine ⟨w4.heap.size, 33, movC (s : Int) (s : Int) 0 1 false, rfl, rfl, ⟨_, heap_alloc_new _ _, (by kernel_rfl)⟩, Tryd.info_mvB _ _ _ _ _, Tryd.one_mvB _ _ _ _ _, ?_⟩; intro W5 hP hq; have H5 := Lib.hid (And.intro hq (hP.below (H4.out.alloc H4.out.size _) H4.out.size)); have m0 := H5.out.1.cell 0; have m1 := H5.out.1.cell 1; have m2 := H5.out.1.cell 2; have m3 := H5.out.1.cell 3; have m4 := H5.out.1.cell 4; rw [show (movC (s : Int) (s : Int) 0 1 false)[0]? = some (.int .i8 (s : Int)) from rfl] at m0; rw [show (movC (s : Int) (s : Int) 0 1 false)[1]? = some (.int .i8 (s : Int)) from rfl] at m1; rw [show (movC (s : Int) (s : Int) 0 1 false)[2]? = some (.int .u8 0) from rfl] at m2; rw [show (movC (s : Int) (s : Int) 0 1 false)[3]? = some (.int .u8 1) from rfl] at m3; rw [show (movC (s : Int) (s : Int) 0 1 false)[4]? = some (.bool false) from rfl] at m4; clear hP hq))
    go_ret
    exact ⟨by first | rfl | simp, H5.out.2⟩
  by_cases h3 : k = 3
  · subst h3
    obtain rfl : S = N.drop 3 s := N.textEnd_one hT (N.text_drop hk (by omega) (by omega) (by decide) rfl rfl rfl)
    have hcat : ((⟨#[46, 80, 78, 66, 82, 81]⟩ : ByteArray).extract 3 4 ++ ⟨#[64]⟩) ++ N.tx s = N.drop 3 s := rfl
    have z1 : ((⟨#[46, 80, 78, 66, 82, 81]⟩ : ByteArray).extract 3 4).size + (⟨#[64]⟩ : ByteArray).size ≤ 9223372036854775807 := Nat.le_of_ble_eq_true rfl
    have z2 : ((⟨#[46, 80, 78, 66, 82, 81]⟩ : ByteArray).extract 3 4 ++ ⟨#[64]⟩).size + (N.tx s).size ≤ 9223372036854775807 := Nat.le_of_ble_eq_true rfl
    have hne : (N.drop 3 s).toList.isEmpty = false := by rw [← Bool.not_eq_true, N.empty_list]; exact fun e => absurd (N.list_of (b := []) e) (by simp)
    clear hT hk hs
    generalize N.drop 3 s = D at *
    generalize N.tx s = TX at *
    go_enter Tryd.func7, Tryd.ntmps7
    go_wp2_with (first
      | (go_at_call 11; (with_reducible refine (awake11_any _).mono ?_); rintro r w1 ⟨rfl, hb⟩; have H1 := Lib.hid (And.intro (H0.out.1.below hb) (below_next H0.out.2 hb)); have c0 := H1.out.1.cell (i := 0) (by decide); have c78 := H1.out.1.cell (i := 78) (by decide); rw [show pk 0 = .u8 from rfl] at c0; rw [show pk 78 = .u8 from rfl] at c78; clear hb)
      | (go_at_call 13; (with_reducible refine (HSq.out _).mono ?_); rintro r w2 ⟨rfl, hb⟩; have H2 := Lib.hid (And.intro (H1.out.1.below hb) (below_next H1.out.2 hb)); clear hb)
      | ((with_reducible refine wp_load_box_g rfl _ rfl ?_); refine ⟨_, c, rfl, H3.out.1, ?_⟩)
      | ((with_reducible refine wp_load_box_g rfl _ rfl ?_); refine ⟨_, c, rfl, H2.out.1, ?_⟩)
      | (go_at_call 9; (with_reducible refine (HT.out _).mono ?_); rintro r w3 ⟨rfl, hb⟩; have H3 := Lib.hid (And.intro (H2.out.1.below hb) (below_next H2.out.2 hb)); clear hb)
      | (go_at_call 12; (with_reducible refine (HP.out _).mono ?_); rintro r w4 ⟨rfl, hb⟩; have H4 := Lib.hid (below_next (H3.out.2.alloc H3.out.2.size _) hb); clear hb)
      | ((with_reducible refine wp_store_row' rfl 33 _ _ rfl ?_); refine ⟨w4.heap.size, 33, movC (s : Int) (s : Int) 0 1 false, rfl, rfl, ⟨_, heap_alloc_new _ _, (by kernel_rfl)⟩, Tryd.info_mvB _ _ _ _ _, Tryd.one_mvB _ _ _ _ _, ?_⟩; intro W5 hP hq; have H5 := Lib.hid (And.intro hq (hP.below (H4.out.alloc H4.out.size _) H4.out.size)); have m0 := H5.out.1.cell 0; have m1 := H5.out.1.cell 1; have m2 := H5.out.1.cell 2; have m3 := H5.out.1.cell 3; have m4 := H5.out.1.cell 4; rw [show (movC (s : Int) (s : Int) 0 1 false)[0]? = some (.int .i8 (s : Int)) from rfl] at m0; rw [show (movC (s : Int) (s : Int) 0 1 false)[1]? = some (.int .i8 (s : Int)) from rfl] at m1; rw [show (movC (s : Int) (s : Int) 0 1 false)[2]? = some (.int .u8 0) from rfl] at m2; rw [show (movC (s : Int) (s : Int) 0 1 false)[3]? = some (.int .u8 1) from rfl] at m3; rw [show (movC (s : Int) (s : Int) 0 1 false)[4]? = some (.bool false) from rfl] at m4; clear hP hq))
    go_ret
    exact ⟨by first | rfl | simp, H5.out.2⟩
  by_cases h4 : k = 4
  · subst h4
    obtain rfl : S = N.drop 4 s := N.textEnd_one hT (N.text_drop hk (by omega) (by omega) (by decide) rfl rfl rfl)
    have hcat : ((⟨#[46, 80, 78, 66, 82, 81]⟩ : ByteArray).extract 4 5 ++ ⟨#[64]⟩) ++ N.tx s = N.drop 4 s := rfl
    have z1 : ((⟨#[46, 80, 78, 66, 82, 81]⟩ : ByteArray).extract 4 5).size + (⟨#[64]⟩ : ByteArray).size ≤ 9223372036854775807 := Nat.le_of_ble_eq_true rfl
    have z2 : ((⟨#[46, 80, 78, 66, 82, 81]⟩ : ByteArray).extract 4 5 ++ ⟨#[64]⟩).size + (N.tx s).size ≤ 9223372036854775807 := Nat.le_of_ble_eq_true rfl
    have hne : (N.drop 4 s).toList.isEmpty = false := by rw [← Bool.not_eq_true, N.empty_list]; exact fun e => absurd (N.list_of (b := []) e) (by simp)
    clear hT hk hs
    generalize N.drop 4 s = D at *
    generalize N.tx s = TX at *
    go_enter Tryd.func7, Tryd.ntmps7
    go_wp2_with (first
      | (go_at_call 11; (with_reducible refine (awake11_any _).mono ?_); rintro r w1 ⟨rfl, hb⟩; have H1 := Lib.hid (And.intro (H0.out.1.below hb) (below_next H0.out.2 hb)); have c0 := H1.out.1.cell (i := 0) (by decide); have c78 := H1.out.1.cell (i := 78) (by decide); rw [show pk 0 = .u8 from rfl] at c0; rw [show pk 78 = .u8 from rfl] at c78; clear hb)
      | (go_at_call 13; (with_reducible refine (HSq.out _).mono ?_); rintro r w2 ⟨rfl, hb⟩; have H2 := Lib.hid (And.intro (H1.out.1.below hb) (below_next H1.out.2 hb)); clear hb)
      | ((with_reducible refine wp_load_box_g rfl _ rfl ?_); refine ⟨_, c, rfl, H3.out.1, ?_⟩)
      | ((with_reducible refine wp_load_box_g rfl _ rfl ?_); refine ⟨_, c, rfl, H2.out.1, ?_⟩)
      | (go_at_call 9; (with_reducible refine (HT.out _).mono ?_); rintro r w3 ⟨rfl, hb⟩; have H3 := Lib.hid (And.intro (H2.out.1.below hb) (below_next H2.out.2 hb)); clear hb)
      | (go_at_call 12; (with_reducible refine (HP.out _).mono ?_); rintro r w4 ⟨rfl, hb⟩; have H4 := Lib.hid (below_next (H3.out.2.alloc H3.out.2.size _) hb); clear hb)
      | ((with_reducible refine wp_store_row' rfl 33 _ _ rfl ?_); refine ⟨w4.heap.size, 33, movC (s : Int) (s : Int) 0 1 false, rfl, rfl, ⟨_, heap_alloc_new _ _, (by kernel_rfl)⟩, Tryd.info_mvB _ _ _ _ _, Tryd.one_mvB _ _ _ _ _, ?_⟩; intro W5 hP hq; have H5 := Lib.hid (And.intro hq (hP.below (H4.out.alloc H4.out.size _) H4.out.size)); have m0 := H5.out.1.cell 0; have m1 := H5.out.1.cell 1; have m2 := H5.out.1.cell 2; have m3 := H5.out.1.cell 3; have m4 := H5.out.1.cell 4; rw [show (movC (s : Int) (s : Int) 0 1 false)[0]? = some (.int .i8 (s : Int)) from rfl] at m0; rw [show (movC (s : Int) (s : Int) 0 1 false)[1]? = some (.int .i8 (s : Int)) from rfl] at m1; rw [show (movC (s : Int) (s : Int) 0 1 false)[2]? = some (.int .u8 0) from rfl] at m2; rw [show (movC (s : Int) (s : Int) 0 1 false)[3]? = some (.int .u8 1) from rfl] at m3; rw [show (movC (s : Int) (s : Int) 0 1 false)[4]? = some (.bool false) from rfl] at m4; clear hP hq))
    go_ret
    exact ⟨by first | rfl | simp, H5.out.2⟩
  by_cases h5 : k = 5
  · subst h5
    obtain rfl : S = N.drop 5 s := N.textEnd_one hT (N.text_drop hk (by omega) (by omega) (by decide) rfl rfl rfl)
    have hcat : ((⟨#[46, 80, 78, 66, 82, 81]⟩ : ByteArray).extract 5 6 ++ ⟨#[64]⟩) ++ N.tx s = N.drop 5 s := rfl
    have z1 : ((⟨#[46, 80, 78, 66, 82, 81]⟩ : ByteArray).extract 5 6).size + (⟨#[64]⟩ : ByteArray).size ≤ 9223372036854775807 := Nat.le_of_ble_eq_true rfl
    have z2 : ((⟨#[46, 80, 78, 66, 82, 81]⟩ : ByteArray).extract 5 6 ++ ⟨#[64]⟩).size + (N.tx s).size ≤ 9223372036854775807 := Nat.le_of_ble_eq_true rfl
    have hne : (N.drop 5 s).toList.isEmpty = false := by rw [← Bool.not_eq_true, N.empty_list]; exact fun e => absurd (N.list_of (b := []) e) (by simp)
    clear hT hk hs
    generalize N.drop 5 s = D at *
    generalize N.tx s = TX at *
    go_enter Tryd.func7, Tryd.ntmps7
    go_wp2_with (first
      | (go_at_call 11; (with_reducible refine (awake11_any _).mono ?_); rintro r w1 ⟨rfl, hb⟩; have H1 := Lib.hid (And.intro (H0.out.1.below hb) (below_next H0.out.2 hb)); have c0 := H1.out.1.cell (i := 0) (by decide); have c78 := H1.out.1.cell (i := 78) (by decide); rw [show pk 0 = .u8 from rfl] at c0; rw [show pk 78 = .u8 from rfl] at c78; clear hb)
      | (go_at_call 13; (with_reducible refine (HSq.out _).mono ?_); rintro r w2 ⟨rfl, hb⟩; have H2 := Lib.hid (And.intro (H1.out.1.below hb) (below_next H1.out.2 hb)); clear hb)
      | ((with_reducible refine wp_load_box_g rfl _ rfl ?_); refine ⟨_, c, rfl, H3.out.1, ?_⟩)
      | ((with_reducible refine wp_load_box_g rfl _ rfl ?_); refine ⟨_, c, rfl, H2.out.1, ?_⟩)
      | (go_at_call 9; (with_reducible refine (HT.out _).mono ?_); rintro r w3 ⟨rfl, hb⟩; have H3 := Lib.hid (And.intro (H2.out.1.below hb) (below_next H2.out.2 hb)); clear hb)
      | (go_at_call 12; (with_reducible refine (HP.out _).mono ?_); rintro r w4 ⟨rfl, hb⟩; have H4 := Lib.hid (below_next (H3.out.2.alloc H3.out.2.size _) hb); clear hb)
      | ((with_reducible refine wp_store_row' rfl 33 _ _ rfl ?_); refine ⟨w4.heap.size, 33, movC (s : Int) (s : Int) 0 1 false, rfl, rfl, ⟨_, heap_alloc_new _ _, (by kernel_rfl)⟩, Tryd.info_mvB _ _ _ _ _, Tryd.one_mvB _ _ _ _ _, ?_⟩; intro W5 hP hq; have H5 := Lib.hid (And.intro hq (hP.below (H4.out.alloc H4.out.size _) H4.out.size)); have m0 := H5.out.1.cell 0; have m1 := H5.out.1.cell 1; have m2 := H5.out.1.cell 2; have m3 := H5.out.1.cell 3; have m4 := H5.out.1.cell 4; rw [show (movC (s : Int) (s : Int) 0 1 false)[0]? = some (.int .i8 (s : Int)) from rfl] at m0; rw [show (movC (s : Int) (s : Int) 0 1 false)[1]? = some (.int .i8 (s : Int)) from rfl] at m1; rw [show (movC (s : Int) (s : Int) 0 1 false)[2]? = some (.int .u8 0) from rfl] at m2; rw [show (movC (s : Int) (s : Int) 0 1 false)[3]? = some (.int .u8 1) from rfl] at m3; rw [show (movC (s : Int) (s : Int) 0 1 false)[4]? = some (.bool false) from rfl] at m4; clear hP hq))
    go_ret
    exact ⟨by first | rfl | simp, H5.out.2⟩
  have k5 : decide (5 < k) = true := by simp; omega
  have k00 : (k == 0) = false := by simpa using h0
  obtain rfl : S = ⟨#[]⟩ := N.textEnd_one hT (N.text_noDrop (by omega) (fun h => by omega))
  clear hT hk h0 h1 h2 h3 h4 h5 hk0 hs
  generalize N.tx s = TX at *
  go_enter Tryd.func7, Tryd.ntmps7
  go_wp2_with (first
    | (go_at_call 11; (with_reducible refine (awake11_any _).mono ?_); rintro r w1 ⟨rfl, hb⟩; have H1 := Lib.hid (And.intro (H0.out.1.below hb) (below_next H0.out.2 hb)); have c0 := H1.out.1.cell (i := 0) (by decide); have c78 := H1.out.1.cell (i := 78) (by decide); rw [show pk 0 = .u8 from rfl] at c0; rw [show pk 78 = .u8 from rfl] at c78; clear hb)
    | (go_at_call 13; (with_reducible refine (HSq.out _).mono ?_); rintro r w2 ⟨rfl, hb⟩; have H2 := Lib.hid (And.intro (H1.out.1.below hb) (below_next H1.out.2 hb)); clear hb)
    | ((with_reducible refine wp_load_box_g rfl _ rfl ?_); refine ⟨_, c, rfl, H3.out.1, ?_⟩)
    | ((with_reducible refine wp_load_box_g rfl _ rfl ?_); refine ⟨_, c, rfl, H2.out.1, ?_⟩)
    | (go_at_call 9; (with_reducible refine (HT.out _).mono ?_); rintro r w3 ⟨rfl, hb⟩; have H3 := Lib.hid (And.intro (H2.out.1.below hb) (below_next H2.out.2 hb)); clear hb)
    | (go_at_call 12; (with_reducible refine (HP.out _).mono ?_); rintro r w4 ⟨rfl, hb⟩; have H4 := Lib.hid (below_next (H3.out.2.alloc H3.out.2.size _) hb); clear hb)
    | ((with_reducible refine wp_store_row' rfl 33 _ _ rfl ?_); refine ⟨w4.heap.size, 33, movC (s : Int) (s : Int) 0 1 false, rfl, rfl, ⟨_, heap_alloc_new _ _, (by kernel_rfl)⟩, Tryd.info_mvB _ _ _ _ _, Tryd.one_mvB _ _ _ _ _, ?_⟩; intro W5 hP hq; have H5 := Lib.hid (And.intro hq (hP.below (H4.out.alloc H4.out.size _) H4.out.size)); have m0 := H5.out.1.cell 0; have m1 := H5.out.1.cell 1; have m2 := H5.out.1.cell 2; have m3 := H5.out.1.cell 3; have m4 := H5.out.1.cell 4; rw [show (movC (s : Int) (s : Int) 0 1 false)[0]? = some (.int .i8 (s : Int)) from rfl] at m0; rw [show (movC (s : Int) (s : Int) 0 1 false)[1]? = some (.int .i8 (s : Int)) from rfl] at m1; rw [show (movC (s : Int) (s : Int) 0 1 false)[2]? = some (.int .u8 0) from rfl] at m2; rw [show (movC (s : Int) (s : Int) 0 1 false)[3]? = some (.int .u8 1) from rfl] at m3; rw [show (movC (s : Int) (s : Int) 0 1 false)[4]? = some (.bool false) from rfl] at m4; clear hP hq))
  go_ret
  exact ⟨by first | rfl | simp, H5.out.2⟩

set_option maxRecDepth 100000 in
set_option maxHeartbeats 8000000 in
theorem movesDrops_2 (c : Nat → Int) (s : Nat) (k : Int) (w : World) (hc : PosOk c) (hk : N.known c) (hs : s < 64) (hk0 : 0 ≤ k ∧ k ≤ 255) :
    Calls Tryd.prog 7 #[.agg (posC c), .int .i8 (s : Int), .int .u8 k, .int .u8 78] w fun e w' => e = .returned (.bool true) ∧ Below w.heap.size w w' := by
  have H0 := Lib.hid (And.intro (PosAt.new w c) ((Below.refl _ w).alloc (Nat.le_refl _) (.cells (posC c) 31)))
  have HSq : Hid (∀ W, Calls Tryd.prog 13 #[.int .i64 (s : Int)] W fun e w' => e = .returned (.string (N.tx s)) ∧ Below W.heap.size W w') := Lib.hid (fun W => sqtext_any s W hs)
  have hk0' := hk.1
  have hk1' := hk.2
  have d0 : decide (9 ≤ c 0) = false := by simp; omega
  have d1 : decide (1 < c 78) = false := by simp; omega
  have d2 : decide ((s : Int) < 0) = false := by simp
  have d3 : decide (63 < (s : Int)) = false := by simp; omega
  have ws := i8_i64 hs
  clear hk0' hk1'
  obtain ⟨S, hT, hTC⟩ := mvText_fix c (s : Int) (s : Int) 0 k false hc (by unfold MovOk; omega)
  have HT0 := Lib.hid hTC
  have HT : Hid (∀ W, Calls Tryd.prog 9 #[.agg (posC c), .agg #[.int .i8 (s : Int), .int .i8 (s : Int), .int .u8 0, .int .u8 k, .bool false]] W fun e w' => e = .returned (.string S) ∧ Below W.heap.size W w') := Lib.hid HT0.out
  clear hTC HT0
  obtain ⟨f2, g2, x2, y2, z2, e2, hP, hPC⟩ := mvParse_fix c (N.by2 78 s) hc (N.by2_size _ _)
  obtain ⟨rfl, rfl, rfl, rfl, rfl, rfl⟩ := N.parse_ok hP (show N.Text c (s : Int) (s : Int) 0 2 false (N.by2 78 s) from ⟨hk, ⟨by omega, by omega⟩, .inl ⟨by omega, rfl, rfl, rfl, rfl⟩⟩)
  have HP : Hid (∀ W, Calls Tryd.prog 12 #[.agg (posC c), .string (⟨#[UInt8.ofNat 78, UInt8.ofNat 64]⟩ ++ N.tx s)] W fun e w' => e = .returned (.tuple #[.agg (movC (s : Int) (s : Int) 0 2 false), .int .i64 0]) ∧ Below W.heap.size W w') := Lib.hid hPC
  have z3 : (⟨#[UInt8.ofNat 78, UInt8.ofNat 64]⟩ : ByteArray).size + (N.tx s).size ≤ 9223372036854775807 := Nat.le_of_ble_eq_true rfl
  have hcv : ∀ W : World, (convert 44 9 (.slice (some ⟨W.heap.size, 0, none⟩) 2 2)).run Tryd.prog (W.alloc (.cells #[.int .u8 78, .int .u8 64] 5)) = .ok (.string ⟨#[UInt8.ofNat 78, UInt8.ofNat 64]⟩) (W.alloc (.cells #[.int .u8 78, .int .u8 64] 5)) := fun W => two_bytes 78 64 W (by decide) (by decide)
  generalize (⟨#[UInt8.ofNat 78, UInt8.ofNat 64]⟩ : ByteArray) = BS at *
  clear hPC hP hc
  by_cases h0 : k = 0
  · subst h0
    obtain rfl : S = ⟨#[]⟩ := N.textEnd_one hT (N.text_same (.inl rfl))
    clear hT hk hs
    generalize N.tx s = TX at *
    go_enter Tryd.func7, Tryd.ntmps7
    go_wp2_with (first
      | (go_at_call 11; (with_reducible refine (awake11_any _).mono ?_); rintro r w1 ⟨rfl, hb⟩; have H1 := Lib.hid (And.intro (H0.out.1.below hb) (below_next H0.out.2 hb)); have c0 := H1.out.1.cell (i := 0) (by decide); have c78 := H1.out.1.cell (i := 78) (by decide); rw [show pk 0 = .u8 from rfl] at c0; rw [show pk 78 = .u8 from rfl] at c78; clear hb)
      | (go_at_call 13; (with_reducible refine (HSq.out _).mono ?_); rintro r w2 ⟨rfl, hb⟩; have H2 := Lib.hid (And.intro (H1.out.1.below hb) (below_next H1.out.2 hb)); clear hb)
      | ((with_reducible refine wp_load_box_g rfl _ rfl ?_); refine ⟨_, c, rfl, H3.out.1, ?_⟩)
      | ((with_reducible refine wp_load_box_g rfl _ rfl ?_); refine ⟨_, c, rfl, H2.out.1, ?_⟩)
      | (go_at_call 9; (with_reducible refine (HT.out _).mono ?_); rintro r w3 ⟨rfl, hb⟩; have H3 := Lib.hid (And.intro (H2.out.1.below hb) (below_next H2.out.2 hb)); clear hb)
      | (go_at_call 12; (with_reducible refine (HP.out _).mono ?_); rintro r w4 ⟨rfl, hb⟩; have H4 := Lib.hid (below_next (H3.out.2.alloc H3.out.2.size _) hb); clear hb)
      | ((with_reducible refine wp_store_row' rfl 33 _ _ rfl ?_); refine ⟨w4.heap.size, 33, movC (s : Int) (s : Int) 0 2 false, rfl, rfl, ⟨_, heap_alloc_new _ _, (by kernel_rfl)⟩, Tryd.info_mvB _ _ _ _ _, Tryd.one_mvB _ _ _ _ _, ?_⟩; intro W5 hP hq; have H5 := Lib.hid (And.intro hq (hP.below (H4.out.alloc H4.out.size _) H4.out.size)); have m0 := H5.out.1.cell 0; have m1 := H5.out.1.cell 1; have m2 := H5.out.1.cell 2; have m3 := H5.out.1.cell 3; have m4 := H5.out.1.cell 4; rw [show (movC (s : Int) (s : Int) 0 2 false)[0]? = some (.int .i8 (s : Int)) from rfl] at m0; rw [show (movC (s : Int) (s : Int) 0 2 false)[1]? = some (.int .i8 (s : Int)) from rfl] at m1; rw [show (movC (s : Int) (s : Int) 0 2 false)[2]? = some (.int .u8 0) from rfl] at m2; rw [show (movC (s : Int) (s : Int) 0 2 false)[3]? = some (.int .u8 2) from rfl] at m3; rw [show (movC (s : Int) (s : Int) 0 2 false)[4]? = some (.bool false) from rfl] at m4; clear hP hq))
    go_ret
    exact ⟨by first | rfl | simp, H5.out.2⟩
  by_cases h1 : k = 1
  · subst h1
    obtain rfl : S = N.drop 1 s := N.textEnd_one hT (N.text_drop hk (by omega) (by omega) (by decide) rfl rfl rfl)
    have hcat : ((⟨#[46, 80, 78, 66, 82, 81]⟩ : ByteArray).extract 1 2 ++ ⟨#[64]⟩) ++ N.tx s = N.drop 1 s := rfl
    have z1 : ((⟨#[46, 80, 78, 66, 82, 81]⟩ : ByteArray).extract 1 2).size + (⟨#[64]⟩ : ByteArray).size ≤ 9223372036854775807 := Nat.le_of_ble_eq_true rfl
    have z2 : ((⟨#[46, 80, 78, 66, 82, 81]⟩ : ByteArray).extract 1 2 ++ ⟨#[64]⟩).size + (N.tx s).size ≤ 9223372036854775807 := Nat.le_of_ble_eq_true rfl
    have hne : (N.drop 1 s).toList.isEmpty = false := by rw [← Bool.not_eq_true, N.empty_list]; exact fun e => absurd (N.list_of (b := []) e) (by simp)
    clear hT hk hs
    generalize N.drop 1 s = D at *
    generalize N.tx s = TX at *
    go_enter Tryd.func7, Tryd.ntmps7
    go_wp2_with (first
      | (go_at_call 11; (with_reducible refine (awake11_any _).mono ?_); rintro r w1 ⟨rfl, hb⟩; have H1 := Lib.hid (And.intro (H0.out.1.below hb) (below_next H0.out.2 hb)); have c0 := H1.out.1.cell (i := 0) (by decide); have c78 := H1.out.1.cell (i := 78) (by decide); rw [show pk 0 = .u8 from rfl] at c0; rw [show pk 78 = .u8 from rfl] at c78; clear hb)
      | (go_at_call 13; (with_reducible refine (HSq.out _).mono ?_); rintro r w2 ⟨rfl, hb⟩; have H2 := Lib.hid (And.intro (H1.out.1.below hb) (below_next H1.out.2 hb)); clear hb)
      | ((with_reducible refine wp_load_box_g rfl _ rfl ?_); refine ⟨_, c, rfl, H3.out.1, ?_⟩)
      | ((with_reducible refine wp_load_box_g rfl _ rfl ?_); refine ⟨_, c, rfl, H2.out.1, ?_⟩)
      | (go_at_call 9; (with_reducible refine (HT.out _).mono ?_); rintro r w3 ⟨rfl, hb⟩; have H3 := Lib.hid (And.intro (H2.out.1.below hb) (below_next H2.out.2 hb)); clear hb)
      | (go_at_call 12; (with_reducible refine (HP.out _).mono ?_); rintro r w4 ⟨rfl, hb⟩; have H4 := Lib.hid (below_next (H3.out.2.alloc H3.out.2.size _) hb); clear hb)
      | ((with_reducible refine wp_store_row' rfl 33 _ _ rfl ?_); refine ⟨w4.heap.size, 33, movC (s : Int) (s : Int) 0 2 false, rfl, rfl, ⟨_, heap_alloc_new _ _, (by kernel_rfl)⟩, Tryd.info_mvB _ _ _ _ _, Tryd.one_mvB _ _ _ _ _, ?_⟩; intro W5 hP hq; have H5 := Lib.hid (And.intro hq (hP.below (H4.out.alloc H4.out.size _) H4.out.size)); have m0 := H5.out.1.cell 0; have m1 := H5.out.1.cell 1; have m2 := H5.out.1.cell 2; have m3 := H5.out.1.cell 3; have m4 := H5.out.1.cell 4; rw [show (movC (s : Int) (s : Int) 0 2 false)[0]? = some (.int .i8 (s : Int)) from rfl] at m0; rw [show (movC (s : Int) (s : Int) 0 2 false)[1]? = some (.int .i8 (s : Int)) from rfl] at m1; rw [show (movC (s : Int) (s : Int) 0 2 false)[2]? = some (.int .u8 0) from rfl] at m2; rw [show (movC (s : Int) (s : Int) 0 2 false)[3]? = some (.int .u8 2) from rfl] at m3; rw [show (movC (s : Int) (s : Int) 0 2 false)[4]? = some (.bool false) from rfl] at m4; clear hP hq))
    go_ret
    exact ⟨by first | rfl | simp, H5.out.2⟩
  by_cases h2 : k = 2
  · subst h2
    obtain rfl : S = N.drop 2 s := N.textEnd_one hT (N.text_drop hk (by omega) (by omega) (by decide) rfl rfl rfl)
    have hcat : ((⟨#[46, 80, 78, 66, 82, 81]⟩ : ByteArray).extract 2 3 ++ ⟨#[64]⟩) ++ N.tx s = N.drop 2 s := rfl
    have z1 : ((⟨#[46, 80, 78, 66, 82, 81]⟩ : ByteArray).extract 2 3).size + (⟨#[64]⟩ : ByteArray).size ≤ 9223372036854775807 := Nat.le_of_ble_eq_true rfl
    have z2 : ((⟨#[46, 80, 78, 66, 82, 81]⟩ : ByteArray).extract 2 3 ++ ⟨#[64]⟩).size + (N.tx s).size ≤ 9223372036854775807 := Nat.le_of_ble_eq_true rfl
    have hne : (N.drop 2 s).toList.isEmpty = false := by rw [← Bool.not_eq_true, N.empty_list]; exact fun e => absurd (N.list_of (b := []) e) (by simp)
    clear hT hk hs
    generalize N.drop 2 s = D at *
    generalize N.tx s = TX at *
    go_enter Tryd.func7, Tryd.ntmps7
    go_wp2_with (first
      | (go_at_call 11; (with_reducible refine (awake11_any _).mono ?_); rintro r w1 ⟨rfl, hb⟩; have H1 := Lib.hid (And.intro (H0.out.1.below hb) (below_next H0.out.2 hb)); have c0 := H1.out.1.cell (i := 0) (by decide); have c78 := H1.out.1.cell (i := 78) (by decide); rw [show pk 0 = .u8 from rfl] at c0; rw [show pk 78 = .u8 from rfl] at c78; clear hb)
      | (go_at_call 13; (with_reducible refine (HSq.out _).mono ?_); rintro r w2 ⟨rfl, hb⟩; have H2 := Lib.hid (And.intro (H1.out.1.below hb) (below_next H1.out.2 hb)); clear hb)
      | ((with_reducible refine wp_load_box_g rfl _ rfl ?_); refine ⟨_, c, rfl, H3.out.1, ?_⟩)
      | ((with_reducible refine wp_load_box_g rfl _ rfl ?_); refine ⟨_, c, rfl, H2.out.1, ?_⟩)
      | (go_at_call 9; (with_reducible refine (HT.out _).mono ?_); rintro r w3 ⟨rfl, hb⟩; have H3 := Lib.hid (And.intro (H2.out.1.below hb) (below_next H2.out.2 hb)); clear hb)
      | (go_at_call 12; (with_reducible refine (HP.out _).mono ?_); rintro r w4 ⟨rfl, hb⟩; have H4 := Lib.hid (below_next (H3.out.2.alloc H3.out.2.size _) hb); clear hb)
      | ((with_reducible refine wp_store_row' rfl 33 _ _ rfl ?_); refine ⟨w4.heap.size, 33, movC (s : Int) (s : Int) 0 2 false, rfl, rfl, ⟨_, heap_alloc_new _ _, (by kernel_rfl)⟩, Tryd.info_mvB _ _ _ _ _, Tryd.one_mvB _ _ _ _ _, ?_⟩; intro W5 hP hq; have H5 := Lib.hid (And.intro hq (hP.below (H4.out.alloc H4.out.size _) H4.out.size)); have m0 := H5.out.1.cell 0; have m1 := H5.out.1.cell 1; have m2 := H5.out.1.cell 2; have m3 := H5.out.1.cell 3; have m4 := H5.out.1.cell 4; rw [show (movC (s : Int) (s : Int) 0 2 false)[0]? = some (.int .i8 (s : Int)) from rfl] at m0; rw [show (movC (s : Int) (s : Int) 0 2 false)[1]? = some (.int .i8 (s : Int)) from rfl] at m1; rw [show (movC (s : Int) (s : Int) 0 2 false)[2]? = some (.int .u8 0) from rfl] at m2; rw [show (movC (s : Int) (s : Int) 0 2 false)[3]? = some (.int .u8 2) from rfl] at m3; rw [show (movC (s : Int) (s : Int) 0 2 false)[4]? = some (.bool false) from rfl] at m4; clear hP hq))
    go_ret
    exact ⟨by first | rfl | simp, H5.out.2⟩
  by_cases h3 : k = 3
  · subst h3
    obtain rfl : S = N.drop 3 s := N.textEnd_one hT (N.text_drop hk (by omega) (by omega) (by decide) rfl rfl rfl)
    have hcat : ((⟨#[46, 80, 78, 66, 82, 81]⟩ : ByteArray).extract 3 4 ++ ⟨#[64]⟩) ++ N.tx s = N.drop 3 s := rfl
    have z1 : ((⟨#[46, 80, 78, 66, 82, 81]⟩ : ByteArray).extract 3 4).size + (⟨#[64]⟩ : ByteArray).size ≤ 9223372036854775807 := Nat.le_of_ble_eq_true rfl
    have z2 : ((⟨#[46, 80, 78, 66, 82, 81]⟩ : ByteArray).extract 3 4 ++ ⟨#[64]⟩).size + (N.tx s).size ≤ 9223372036854775807 := Nat.le_of_ble_eq_true rfl
    have hne : (N.drop 3 s).toList.isEmpty = false := by rw [← Bool.not_eq_true, N.empty_list]; exact fun e => absurd (N.list_of (b := []) e) (by simp)
    clear hT hk hs
    generalize N.drop 3 s = D at *
    generalize N.tx s = TX at *
    go_enter Tryd.func7, Tryd.ntmps7
    go_wp2_with (first
      | (go_at_call 11; (with_reducible refine (awake11_any _).mono ?_); rintro r w1 ⟨rfl, hb⟩; have H1 := Lib.hid (And.intro (H0.out.1.below hb) (below_next H0.out.2 hb)); have c0 := H1.out.1.cell (i := 0) (by decide); have c78 := H1.out.1.cell (i := 78) (by decide); rw [show pk 0 = .u8 from rfl] at c0; rw [show pk 78 = .u8 from rfl] at c78; clear hb)
      | (go_at_call 13; (with_reducible refine (HSq.out _).mono ?_); rintro r w2 ⟨rfl, hb⟩; have H2 := Lib.hid (And.intro (H1.out.1.below hb) (below_next H1.out.2 hb)); clear hb)
      | ((with_reducible refine wp_load_box_g rfl _ rfl ?_); refine ⟨_, c, rfl, H3.out.1, ?_⟩)
      | ((with_reducible refine wp_load_box_g rfl _ rfl ?_); refine ⟨_, c, rfl, H2.out.1, ?_⟩)
      | (go_at_call 9; (with_reducible refine (HT.out _).mono ?_); rintro r w3 ⟨rfl, hb⟩; have H3 := Lib.hid (And.intro (H2.out.1.below hb) (below_next H2.out.2 hb)); clear hb)
      | (go_at_call 12; (with_reducible refine (HP.out _).mono ?_); rintro r w4 ⟨rfl, hb⟩; have H4 := Lib.hid (below_next (H3.out.2.alloc H3.out.2.size _) hb); clear hb)
      | ((with_reducible refine wp_store_row' rfl 33 _ _ rfl ?_); refine ⟨w4.heap.size, 33, movC (s : Int) (s : Int) 0 2 false, rfl, rfl, ⟨_, heap_alloc_new _ _, (by kernel_rfl)⟩, Tryd.info_mvB _ _ _ _ _, Tryd.one_mvB _ _ _ _ _, ?_⟩; intro W5 hP hq; have H5 := Lib.hid (And.intro hq (hP.below (H4.out.alloc H4.out.size _) H4.out.size)); have m0 := H5.out.1.cell 0; have m1 := H5.out.1.cell 1; have m2 := H5.out.1.cell 2; have m3 := H5.out.1.cell 3; have m4 := H5.out.1.cell 4; rw [show (movC (s : Int) (s : Int) 0 2 false)[0]? = some (.int .i8 (s : Int)) from rfl] at m0; rw [show (movC (s : Int) (s : Int) 0 2 false)[1]? = some (.int .i8 (s : Int)) from rfl] at m1; rw [show (movC (s : Int) (s : Int) 0 2 false)[2]? = some (.int .u8 0) from rfl] at m2; rw [show (movC (s : Int) (s : Int) 0 2 false)[3]? = some (.int .u8 2) from rfl] at m3; rw [show (movC (s : Int) (s : Int) 0 2 false)[4]? = some (.bool false) from rfl] at m4; clear hP hq))
    go_ret
    exact ⟨by first | rfl | simp, H5.out.2⟩
  by_cases h4 : k = 4
  · subst h4
    obtain rfl : S = N.drop 4 s := N.textEnd_one hT (N.text_drop hk (by omega) (by omega) (by decide) rfl rfl rfl)
    have hcat : ((⟨#[46, 80, 78, 66, 82, 81]⟩ : ByteArray).extract 4 5 ++ ⟨#[64]⟩) ++ N.tx s = N.drop 4 s := rfl
    have z1 : ((⟨#[46, 80, 78, 66, 82, 81]⟩ : ByteArray).extract 4 5).size + (⟨#[64]⟩ : ByteArray).size ≤ 9223372036854775807 := Nat.le_of_ble_eq_true rfl
    have z2 : ((⟨#[46, 80, 78, 66, 82, 81]⟩ : ByteArray).extract 4 5 ++ ⟨#[64]⟩).size + (N.tx s).size ≤ 9223372036854775807 := Nat.le_of_ble_eq_true rfl
    have hne : (N.drop 4 s).toList.isEmpty = false := by rw [← Bool.not_eq_true, N.empty_list]; exact fun e => absurd (N.list_of (b := []) e) (by simp)
    clear hT hk hs
    generalize N.drop 4 s = D at *
    generalize N.tx s = TX at *
    go_enter Tryd.func7, Tryd.ntmps7
    go_wp2_with (first
      | (go_at_call 11; (with_reducible refine (awake11_any _).mono ?_); rintro r w1 ⟨rfl, hb⟩; have H1 := Lib.hid (And.intro (H0.out.1.below hb) (below_next H0.out.2 hb)); have c0 := H1.out.1.cell (i := 0) (by decide); have c78 := H1.out.1.cell (i := 78) (by decide); rw [show pk 0 = .u8 from rfl] at c0; rw [show pk 78 = .u8 from rfl] at c78; clear hb)
      | (go_at_call 13; (with_reducible refine (HSq.out _).mono ?_); rintro r w2 ⟨rfl, hb⟩; have H2 := Lib.hid (And.intro (H1.out.1.below hb) (below_next H1.out.2 hb)); clear hb)
      | ((with_reducible refine wp_load_box_g rfl _ rfl ?_); refine ⟨_, c, rfl, H3.out.1, ?_⟩)
      | ((with_reducible refine wp_load_box_g rfl _ rfl ?_); refine ⟨_, c, rfl, H2.out.1, ?_⟩)
      | (go_at_call 9; (with_reducible refine (HT.out _).mono ?_); rintro r w3 ⟨rfl, hb⟩; have H3 := Lib.hid (And.intro (H2.out.1.below hb) (below_next H2.out.2 hb)); clear hb)
      | (go_at_call 12; (with_reducible refine (HP.out _).mono ?_); rintro r w4 ⟨rfl, hb⟩; have H4 := Lib.hid (below_next (H3.out.2.alloc H3.out.2.size _) hb); clear hb)
      | ((with_reducible refine wp_store_row' rfl 33 _ _ rfl ?_); refine ⟨w4.heap.size, 33, movC (s : Int) (s : Int) 0 2 false, rfl, rfl, ⟨_, heap_alloc_new _ _, (by kernel_rfl)⟩, Tryd.info_mvB _ _ _ _ _, Tryd.one_mvB _ _ _ _ _, ?_⟩; intro W5 hP hq; have H5 := Lib.hid (And.intro hq (hP.below (H4.out.alloc H4.out.size _) H4.out.size)); have m0 := H5.out.1.cell 0; have m1 := H5.out.1.cell 1; have m2 := H5.out.1.cell 2; have m3 := H5.out.1.cell 3; have m4 := H5.out.1.cell 4; rw [show (movC (s : Int) (s : Int) 0 2 false)[0]? = some (.int .i8 (s : Int)) from rfl] at m0; rw [show (movC (s : Int) (s : Int) 0 2 false)[1]? = some (.int .i8 (s : Int)) from rfl] at m1; rw [show (movC (s : Int) (s : Int) 0 2 false)[2]? = some (.int .u8 0) from rfl] at m2; rw [show (movC (s : Int) (s : Int) 0 2 false)[3]? = some (.int .u8 2) from rfl] at m3; rw [show (movC (s : Int) (s : Int) 0 2 false)[4]? = some (.bool false) from rfl] at m4; clear hP hq))
    go_ret
    exact ⟨by first | rfl | simp, H5.out.2⟩
  by_cases h5 : k = 5
  · subst h5
    obtain rfl : S = N.drop 5 s := N.textEnd_one hT (N.text_drop hk (by omega) (by omega) (by decide) rfl rfl rfl)
    have hcat : ((⟨#[46, 80, 78, 66, 82, 81]⟩ : ByteArray).extract 5 6 ++ ⟨#[64]⟩) ++ N.tx s = N.drop 5 s := rfl
    have z1 : ((⟨#[46, 80, 78, 66, 82, 81]⟩ : ByteArray).extract 5 6).size + (⟨#[64]⟩ : ByteArray).size ≤ 9223372036854775807 := Nat.le_of_ble_eq_true rfl
    have z2 : ((⟨#[46, 80, 78, 66, 82, 81]⟩ : ByteArray).extract 5 6 ++ ⟨#[64]⟩).size + (N.tx s).size ≤ 9223372036854775807 := Nat.le_of_ble_eq_true rfl
    have hne : (N.drop 5 s).toList.isEmpty = false := by rw [← Bool.not_eq_true, N.empty_list]; exact fun e => absurd (N.list_of (b := []) e) (by simp)
    clear hT hk hs
    generalize N.drop 5 s = D at *
    generalize N.tx s = TX at *
    go_enter Tryd.func7, Tryd.ntmps7
    go_wp2_with (first
      | (go_at_call 11; (with_reducible refine (awake11_any _).mono ?_); rintro r w1 ⟨rfl, hb⟩; have H1 := Lib.hid (And.intro (H0.out.1.below hb) (below_next H0.out.2 hb)); have c0 := H1.out.1.cell (i := 0) (by decide); have c78 := H1.out.1.cell (i := 78) (by decide); rw [show pk 0 = .u8 from rfl] at c0; rw [show pk 78 = .u8 from rfl] at c78; clear hb)
      | (go_at_call 13; (with_reducible refine (HSq.out _).mono ?_); rintro r w2 ⟨rfl, hb⟩; have H2 := Lib.hid (And.intro (H1.out.1.below hb) (below_next H1.out.2 hb)); clear hb)
      | ((with_reducible refine wp_load_box_g rfl _ rfl ?_); refine ⟨_, c, rfl, H3.out.1, ?_⟩)
      | ((with_reducible refine wp_load_box_g rfl _ rfl ?_); refine ⟨_, c, rfl, H2.out.1, ?_⟩)
      | (go_at_call 9; (with_reducible refine (HT.out _).mono ?_); rintro r w3 ⟨rfl, hb⟩; have H3 := Lib.hid (And.intro (H2.out.1.below hb) (below_next H2.out.2 hb)); clear hb)
      | (go_at_call 12; (with_reducible refine (HP.out _).mono ?_); rintro r w4 ⟨rfl, hb⟩; have H4 := Lib.hid (below_next (H3.out.2.alloc H3.out.2.size _) hb); clear hb)
      | ((with_reducible refine wp_store_row' rfl 33 _ _ rfl ?_); refine ⟨w4.heap.size, 33, movC (s : Int) (s : Int) 0 2 false, rfl, rfl, ⟨_, heap_alloc_new _ _, (by kernel_rfl)⟩, Tryd.info_mvB _ _ _ _ _, Tryd.one_mvB _ _ _ _ _, ?_⟩; intro W5 hP hq; have H5 := Lib.hid (And.intro hq (hP.below (H4.out.alloc H4.out.size _) H4.out.size)); have m0 := H5.out.1.cell 0; have m1 := H5.out.1.cell 1; have m2 := H5.out.1.cell 2; have m3 := H5.out.1.cell 3; have m4 := H5.out.1.cell 4; rw [show (movC (s : Int) (s : Int) 0 2 false)[0]? = some (.int .i8 (s : Int)) from rfl] at m0; rw [show (movC (s : Int) (s : Int) 0 2 false)[1]? = some (.int .i8 (s : Int)) from rfl] at m1; rw [show (movC (s : Int) (s : Int) 0 2 false)[2]? = some (.int .u8 0) from rfl] at m2; rw [show (movC (s : Int) (s : Int) 0 2 false)[3]? = some (.int .u8 2) from rfl] at m3; rw [show (movC (s : Int) (s : Int) 0 2 false)[4]? = some (.bool false) from rfl] at m4; clear hP hq))
    go_ret
    exact ⟨by first | rfl | simp, H5.out.2⟩
  have k5 : decide (5 < k) = true := by simp; omega
  have k00 : (k == 0) = false := by simpa using h0
  obtain rfl : S = ⟨#[]⟩ := N.textEnd_one hT (N.text_noDrop (by omega) (fun h => by omega))
  clear hT hk h0 h1 h2 h3 h4 h5 hk0 hs
  generalize N.tx s = TX at *
  go_enter Tryd.func7, Tryd.ntmps7
  go_wp2_with (first
    | (go_at_call 11; (with_reducible refine (awake11_any _).mono ?_); rintro r w1 ⟨rfl, hb⟩; have H1 := Lib.hid (And.intro (H0.out.1.below hb) (below_next H0.out.2 hb)); have c0 := H1.out.1.cell (i := 0) (by decide); have c78 := H1.out.1.cell (i := 78) (by decide); rw [show pk 0 = .u8 from rfl] at c0; rw [show pk 78 = .u8 from rfl] at c78; clear hb)
    | (go_at_call 13; (with_reducible refine (HSq.out _).mono ?_); rintro r w2 ⟨rfl, hb⟩; have H2 := Lib.hid (And.intro (H1.out.1.below hb) (below_next H1.out.2 hb)); clear hb)
    | ((with_reducible refine wp_load_box_g rfl _ rfl ?_); refine ⟨_, c, rfl, H3.out.1, ?_⟩)
    | ((with_reducible refine wp_load_box_g rfl _ rfl ?_); refine ⟨_, c, rfl, H2.out.1, ?_⟩)
    | (go_at_call 9; (with_reducible refine (HT.out _).mono ?_); rintro r w3 ⟨rfl, hb⟩; have H3 := Lib.hid (And.intro (H2.out.1.below hb) (below_next H2.out.2 hb)); clear hb)
    | (go_at_call 12; (with_reducible refine (HP.out _).mono ?_); rintro r w4 ⟨rfl, hb⟩; have H4 := Lib.hid (below_next (H3.out.2.alloc H3.out.2.size _) hb); clear hb)
    | ((with_reducible refine wp_store_row' rfl 33 _ _ rfl ?_); refine ⟨w4.heap.size, 33, movC (s : Int) (s : Int) 0 2 false, rfl, rfl, ⟨_, heap_alloc_new _ _, (by kernel_rfl)⟩, Tryd.info_mvB _ _ _ _ _, Tryd.one_mvB _ _ _ _ _, ?_⟩; intro W5 hP hq; have H5 := Lib.hid (And.intro hq (hP.below (H4.out.alloc H4.out.size _) H4.out.size)); have m0 := H5.out.1.cell 0; have m1 := H5.out.1.cell 1; have m2 := H5.out.1.cell 2; have m3 := H5.out.1.cell 3; have m4 := H5.out.1.cell 4; rw [show (movC (s : Int) (s : Int) 0 2 false)[0]? = some (.int .i8 (s : Int)) from rfl] at m0; rw [show (movC (s : Int) (s : Int) 0 2 false)[1]? = some (.int .i8 (s : Int)) from rfl] at m1; rw [show (movC (s : Int) (s : Int) 0 2 false)[2]? = some (.int .u8 0) from rfl] at m2; rw [show (movC (s : Int) (s : Int) 0 2 false)[3]? = some (.int .u8 2) from rfl] at m3; rw [show (movC (s : Int) (s : Int) 0 2 false)[4]? = some (.bool false) from rfl] at m4; clear hP hq))
  go_ret
  exact ⟨by first | rfl | simp, H5.out.2⟩

set_option maxRecDepth 100000 in
set_option maxHeartbeats 8000000 in
theorem movesDrops_3 (c : Nat → Int) (s : Nat) (k : Int) (w : World) (hc : PosOk c) (hk : N.known c) (hs : s < 64) (hk0 : 0 ≤ k ∧ k ≤ 255) :
    Calls Tryd.prog 7 #[.agg (posC c), .int .i8 (s : Int), .int .u8 k, .int .u8 66] w fun e w' => e = .returned (.bool true) ∧ Below w.heap.size w w' := by
  have H0 := Lib.hid (And.intro (PosAt.new w c) ((Below.refl _ w).alloc (Nat.le_refl _) (.cells (posC c) 31)))
  have HSq : Hid (∀ W, Calls Tryd.prog 13 #[.int .i64 (s : Int)] W fun e w' => e = .returned (.string (N.tx s)) ∧ Below W.heap.size W w') := Lib.hid (fun W => sqtext_any s W hs)
  have hk0' := hk.1
  have hk1' := hk.2
  have d0 : decide (9 ≤ c 0) = false := by simp; omega
  have d1 : decide (1 < c 78) = false := by simp; omega
  have d2 : decide ((s : Int) < 0) = false := by simp
  have d3 : decide (63 < (s : Int)) = false := by simp; omega
  have ws := i8_i64 hs
  clear hk0' hk1'
  obtain ⟨S, hT, hTC⟩ := mvText_fix c (s : Int) (s : Int) 0 k false hc (by unfold MovOk; omega)
  have HT0 := Lib.hid hTC
  have HT : Hid (∀ W, Calls Tryd.prog 9 #[.agg (posC c), .agg #[.int .i8 (s : Int), .int .i8 (s : Int), .int .u8 0, .int .u8 k, .bool false]] W fun e w' => e = .returned (.string S) ∧ Below W.heap.size W w') := Lib.hid HT0.out
  clear hTC HT0
  obtain ⟨f2, g2, x2, y2, z2, e2, hP, hPC⟩ := mvParse_fix c (N.by2 66 s) hc (N.by2_size _ _)
  obtain ⟨rfl, rfl, rfl, rfl, rfl, rfl⟩ := N.parse_ok hP (show N.Text c (s : Int) (s : Int) 0 3 false (N.by2 66 s) from ⟨hk, ⟨by omega, by omega⟩, .inl ⟨by omega, rfl, rfl, rfl, rfl⟩⟩)
  have HP : Hid (∀ W, Calls Tryd.prog 12 #[.agg (posC c), .string (⟨#[UInt8.ofNat 66, UInt8.ofNat 64]⟩ ++ N.tx s)] W fun e w' => e = .returned (.tuple #[.agg (movC (s : Int) (s : Int) 0 3 false), .int .i64 0]) ∧ Below W.heap.size W w') := Lib.hid hPC
  have z3 : (⟨#[UInt8.ofNat 66, UInt8.ofNat 64]⟩ : ByteArray).size + (N.tx s).size ≤ 9223372036854775807 := Nat.le_of_ble_eq_true rfl
  have hcv : ∀ W : World, (convert 44 9 (.slice (some ⟨W.heap.size, 0, none⟩) 2 2)).run Tryd.prog (W.alloc (.cells #[.int .u8 66, .int .u8 64] 5)) = .ok (.string ⟨#[UInt8.ofNat 66, UInt8.ofNat 64]⟩) (W.alloc (.cells #[.int .u8 66, .int .u8 64] 5)) := fun W => two_bytes 66 64 W (by decide) (by decide)
  generalize (⟨#[UInt8.ofNat 66, UInt8.ofNat 64]⟩ : ByteArray) = BS at *
  clear hPC hP hc
  by_cases h0 : k = 0
  · subst h0
    obtain rfl : S = ⟨#[]⟩ := N.textEnd_one hT (N.text_same (.inl rfl))
    clear hT hk hs
    generalize N.tx s = TX at *
    go_enter Tryd.func7, Tryd.ntmps7
    go_wp2_with (first
      | (go_at_call 11; (with_reducible refine (awake11_any _).mono ?_); rintro r w1 ⟨rfl, hb⟩; have H1 := Lib.hid (And.intro (H0.out.1.below hb) (below_next H0.out.2 hb)); have c0 := H1.out.1.cell (i := 0) (by decide); have c78 := H1.out.1.cell (i := 78) (by decide); rw [show pk 0 = .u8 from rfl] at c0; rw [show pk 78 = .u8 from rfl] at c78; clear hb)
      | (go_at_call 13; (with_reducible refine (HSq.out _).mono ?_); rintro r w2 ⟨rfl, hb⟩; have H2 := Lib.hid (And.intro (H1.out.1.below hb) (below_next H1.out.2 hb)); clear hb)
      | ((with_reducible refine wp_load_box_g rfl _ rfl ?_); refine ⟨_, c, rfl, H3.out.1, ?_⟩)
      | ((with_reducible refine wp_load_box_g rfl _ rfl ?_); refine ⟨_, c, rfl, H2.out.1, ?_⟩)
      | (go_at_call 9; (with_reducible refine (HT.out _).mono ?_); rintro r w3 ⟨rfl, hb⟩; have H3 := Lib.hid (And.intro (H2.out.1.below hb) (below_next H2.out.2 hb)); clear hb)
      | (go_at_call 12; (with_reducible refine (HP.out _).mono ?_); rintro r w4 ⟨rfl, hb⟩; have H4 := Lib.hid (below_next (H3.out.2.alloc H3.out.2.size _) hb); clear hb)
      | ((with_reducible refine wp_store_row' rfl 33 _ _ rfl ?_); refine ⟨w4.heap.size, 33, movC (s : Int) (s : Int) 0 3 false, rfl, rfl, ⟨_, heap_alloc_new _ _, (by kernel_rfl)⟩, Tryd.info_mvB _ _ _ _ _, Tryd.one_mvB _ _ _ _ _, ?_⟩; intro W5 hP hq; have H5 := Lib.hid (And.intro hq (hP.below (H4.out.alloc H4.out.size _) H4.out.size)); have m0 := H5.out.1.cell 0; have m1 := H5.out.1.cell 1; have m2 := H5.out.1.cell 2; have m3 := H5.out.1.cell 3; have m4 := H5.out.1.cell 4; rw [show (movC (s : Int) (s : Int) 0 3 false)[0]? = some (.int .i8 (s : Int)) from rfl] at m0; rw [show (movC (s : Int) (s : Int) 0 3 false)[1]? = some (.int .i8 (s : Int)) from rfl] at m1; rw [show (movC (s : Int) (s : Int) 0 3 false)[2]? = some (.int .u8 0) from rfl] at m2; rw [show (movC (s : Int) (s : Int) 0 3 false)[3]? = some (.int .u8 3) from rfl] at m3; rw [show (movC (s : Int) (s : Int) 0 3 false)[4]? = some (.bool false) from rfl] at m4; clear hP hq))
    go_ret
    exact ⟨by first | rfl | simp, H5.out.2⟩
  by_cases h1 : k = 1
  · subst h1
    obtain rfl : S = N.drop 1 s := N.textEnd_one hT (N.text_drop hk (by omega) (by omega) (by decide) rfl rfl rfl)
    have hcat : ((⟨#[46, 80, 78, 66, 82, 81]⟩ : ByteArray).extract 1 2 ++ ⟨#[64]⟩) ++ N.tx s = N.drop 1 s := rfl
    have z1 : ((⟨#[46, 80, 78, 66, 82, 81]⟩ : ByteArray).extract 1 2).size + (⟨#[64]⟩ : ByteArray).size ≤ 9223372036854775807 := Nat.le_of_ble_eq_true rfl
    have z2 : ((⟨#[46, 80, 78, 66, 82, 81]⟩ : ByteArray).extract 1 2 ++ ⟨#[64]⟩).size + (N.tx s).size ≤ 9223372036854775807 := Nat.le_of_ble_eq_true rfl
    have hne : (N.drop 1 s).toList.isEmpty = false := by rw [← Bool.not_eq_true, N.empty_list]; exact fun e => absurd (N.list_of (b := []) e) (by simp)
    clear hT hk hs
    generalize N.drop 1 s = D at *
    generalize N.tx s = TX at *
    go_enter Tryd.func7, Tryd.ntmps7
    go_wp2_with (first
      | (go_at_call 11; (with_reducible refine (awake11_any _).mono ?_); rintro r w1 ⟨rfl, hb⟩; have H1 := Lib.hid (And.intro (H0.out.1.below hb) (below_next H0.out.2 hb)); have c0 := H1.out.1.cell (i := 0) (by decide); have c78 := H1.out.1.cell (i := 78) (by decide); rw [show pk 0 = .u8 from rfl] at c0; rw [show pk 78 = .u8 from rfl] at c78; clear hb)
      | (go_at_call 13; (with_reducible refine (HSq.out _).mono ?_); rintro r w2 ⟨rfl, hb⟩; have H2 := Lib.hid (And.intro (H1.out.1.below hb) (below_next H1.out.2 hb)); clear hb)
      | ((with_reducible refine wp_load_box_g rfl _ rfl ?_); refine ⟨_, c, rfl, H3.out.1, ?_⟩)
      | ((with_reducible refine wp_load_box_g rfl _ rfl ?_); refine ⟨_, c, rfl, H2.out.1, ?_⟩)
      | (go_at_call 9; (with_reducible refine (HT.out _).mono ?_); rintro r w3 ⟨rfl, hb⟩; have H3 := Lib.hid (And.intro (H2.out.1.below hb) (below_next H2.out.2 hb)); clear hb)
      | (go_at_call 12; (with_reducible refine (HP.out _).mono ?_); rintro r w4 ⟨rfl, hb⟩; have H4 := Lib.hid (below_next (H3.out.2.alloc H3.out.2.size _) hb); clear hb)
      | ((with_reducible refine wp_store_row' rfl 33 _ _ rfl ?_); refine ⟨w4.heap.size, 33, movC (s : Int) (s : Int) 0 3 false, rfl, rfl, ⟨_, heap_alloc_new _ _, (by kernel_rfl)⟩, Tryd.info_mvB _ _ _ _ _, Tryd.one_mvB _ _ _ _ _, ?_⟩; intro W5 hP hq; have H5 := Lib.hid (And.intro hq (hP.below (H4.out.alloc H4.out.size _) H4.out.size)); have m0 := H5.out.1.cell 0; have m1 := H5.out.1.cell 1; have m2 := H5.out.1.cell 2; have m3 := H5.out.1.cell 3; have m4 := H5.out.1.cell 4; rw [show (movC (s : Int) (s : Int) 0 3 false)[0]? = some (.int .i8 (s : Int)) from rfl] at m0; rw [show (movC (s : Int) (s : Int) 0 3 false)[1]? = some (.int .i8 (s : Int)) from rfl] at m1; rw [show (movC (s : Int) (s : Int) 0 3 false)[2]? = some (.int .u8 0) from rfl] at m2; rw [show (movC (s : Int) (s : Int) 0 3 false)[3]? = some (.int .u8 3) from rfl] at m3; rw [show (movC (s : Int) (s : Int) 0 3 false)[4]? = some (.bool false) from rfl] at m4; clear hP hq))
    go_ret
    exact ⟨by first | rfl | simp, H5.out.2⟩
  by_cases h2 : k = 2
  · subst h2
    obtain rfl : S = N.drop 2 s := N.textEnd_one hT (N.text_drop hk (by omega) (by omega) (by decide) rfl rfl rfl)
    have hcat : ((⟨#[46, 80, 78, 66, 82, 81]⟩ : ByteArray).extract 2 3 ++ ⟨#[64]⟩) ++ N.tx s = N.drop 2 s := rfl
    have z1 : ((⟨#[46, 80, 78, 66, 82, 81]⟩ : ByteArray).extract 2 3).size + (⟨#[64]⟩ : ByteArray).size ≤ 9223372036854775807 := Nat.le_of_ble_eq_true rfl
    have z2 : ((⟨#[46, 80, 78, 66, 82, 81]⟩ : ByteArray).extract 2 3 ++ ⟨#[64]⟩).size + (N.tx s).size ≤ 9223372036854775807 := Nat.le_of_ble_eq_true rfl
    have hne : (N.drop 2 s).toList.isEmpty = false := by rw [← Bool.not_eq_true, N.empty_list]; exact fun e => absurd (N.list_of (b := []) e) (by simp)
    clear hT hk hs
    generalize N.drop 2 s = D at *
    generalize N.tx s = TX at *
    go_enter Tryd.func7, Tryd.ntmps7
    go_wp2_with (first
      | (go_at_call 11; (with_reducible refine (awake11_any _).mono ?_); rintro r w1 ⟨rfl, hb⟩; have H1 := Lib.hid (And.intro (H0.out.1.below hb) (below_next H0.out.2 hb)); have c0 := H1.out.1.cell (i := 0) (by decide); have c78 := H1.out.1.cell (i := 78) (by decide); rw [show pk 0 = .u8 from rfl] at c0; rw [show pk 78 = .u8 from rfl] at c78; clear hb)
      | (go_at_call 13; (with_reducible refine (HSq.out _).mono ?_); rintro r w2 ⟨rfl, hb⟩; have H2 := Lib.hid (And.intro (H1.out.1.below hb) (below_next H1.out.2 hb)); clear hb)
      | ((with_reducible refine wp_load_box_g rfl _ rfl ?_); refine ⟨_, c, rfl, H3.out.1, ?_⟩)
      | ((with_reducible refine wp_load_box_g rfl _ rfl ?_); refine ⟨_, c, rfl, H2.out.1, ?_⟩)
      | (go_at_call 9; (with_reducible refine (HT.out _).mono ?_); rintro r w3 ⟨rfl, hb⟩; have H3 := Lib.hid (And.intro (H2.out.1.below hb) (below_next H2.out.2 hb)); clear hb)
      | (go_at_call 12; (with_reducible refine (HP.out _).mono ?_); rintro r w4 ⟨rfl, hb⟩; have H4 := Lib.hid (below_next (H3.out.2.alloc H3.out.2.size _) hb); clear hb)
      | ((with_reducible refine wp_store_row' rfl 33 _ _ rfl ?_); refine ⟨w4.heap.size, 33, movC (s : Int) (s : Int) 0 3 false, rfl, rfl, ⟨_, heap_alloc_new _ _, (by kernel_rfl)⟩, Tryd.info_mvB _ _ _ _ _, Tryd.one_mvB _ _ _ _ _, ?_⟩; intro W5 hP hq; have H5 := Lib.hid (And.intro hq (hP.below (H4.out.alloc H4.out.size _) H4.out.size)); have m0 := H5.out.1.cell 0; have m1 := H5.out.1.cell 1; have m2 := H5.out.1.cell 2; have m3 := H5.out.1.cell 3; have m4 := H5.out.1.cell 4; rw [show (movC (s : Int) (s : Int) 0 3 false)[0]? = some (.int .i8 (s : Int)) from rfl] at m0; rw [show (movC (s : Int) (s : Int) 0 3 false)[1]? = some (.int .i8 (s : Int)) from rfl] at m1; rw [show (movC (s : Int) (s : Int) 0 3 false)[2]? = some (.int .u8 0) from rfl] at m2; rw [show (movC (s : Int) (s : Int) 0 3 false)[3]? = some (.int .u8 3) from rfl] at m3; rw [show (movC (s : Int) (s : Int) 0 3 false)[4]? = some (.bool false) from rfl] at m4; clear hP hq))
    go_ret
    exact ⟨by first | rfl | simp, H5.out.2⟩
  by_cases h3 : k = 3
  · subst h3
    obtain rfl : S = N.drop 3 s := N.textEnd_one hT (N.text_drop hk (by omega) (by omega) (by decide) rfl rfl rfl)
    have hcat : ((⟨#[46, 80, 78, 66, 82, 81]⟩ : ByteArray).extract 3 4 ++ ⟨#[64]⟩) ++ N.tx s = N.drop 3 s := rfl
    have z1 : ((⟨#[46, 80, 78, 66, 82, 81]⟩ : ByteArray).extract 3 4).size + (⟨#[64]⟩ : ByteArray).size ≤ 9223372036854775807 := Nat.le_of_ble_eq_true rfl
    have z2 : ((⟨#[46, 80, 78, 66, 82, 81]⟩ : ByteArray).extract 3 4 ++ ⟨#[64]⟩).size + (N.tx s).size ≤ 9223372036854775807 := Nat.le_of_ble_eq_true rfl
    have hne : (N.drop 3 s).toList.isEmpty = false := by rw [← Bool.not_eq_true, N.empty_list]; exact fun e => absurd (N.list_of (b := []) e) (by simp)
    clear hT hk hs
    generalize N.drop 3 s = D at *
    generalize N.tx s = TX at *
    go_enter Tryd.func7, Tryd.ntmps7
    go_wp2_with (first
      | (go_at_call 11; (with_reducible refine (awake11_any _).mono ?_); rintro r w1 ⟨rfl, hb⟩; have H1 := Lib.hid (And.intro (H0.out.1.below hb) (below_next H0.out.2 hb)); have c0 := H1.out.1.cell (i := 0) (by decide); have c78 := H1.out.1.cell (i := 78) (by decide); rw [show pk 0 = .u8 from rfl] at c0; rw [show pk 78 = .u8 from rfl] at c78; clear hb)
      | (go_at_call 13; (with_reducible refine (HSq.out _).mono ?_); rintro r w2 ⟨rfl, hb⟩; have H2 := Lib.hid (And.intro (H1.out.1.below hb) (below_next H1.out.2 hb)); clear hb)
      | ((with_reducible refine wp_load_box_g rfl _ rfl ?_); refine ⟨_, c, rfl, H3.out.1, ?_⟩)
      | ((with_reducible refine wp_load_box_g rfl _ rfl ?_); refine ⟨_, c, rfl, H2.out.1, ?_⟩)
      | (go_at_call 9; (with_reducible refine (HT.out _).mono ?_); rintro r w3 ⟨rfl, hb⟩; have H3 := Lib.hid (And.intro (H2.out.1.below hb) (below_next H2.out.2 hb)); clear hb)
      | (go_at_call 12; (with_reducible refine (HP.out _).mono ?_); rintro r w4 ⟨rfl, hb⟩; have H4 := Lib.hid (below_next (H3.out.2.alloc H3.out.2.size _) hb); clear hb)
      | ((with_reducible refine wp_store_row' rfl 33 _ _ rfl ?_); refine ⟨w4.heap.size, 33, movC (s : Int) (s : Int) 0 3 false, rfl, rfl, ⟨_, heap_alloc_new _ _, (by kernel_rfl)⟩, Tryd.info_mvB _ _ _ _ _, Tryd.one_mvB _ _ _ _ _, ?_⟩; intro W5 hP hq; have H5 := Lib.hid (And.intro hq (hP.below (H4.out.alloc H4.out.size _) H4.out.size)); have m0 := H5.out.1.cell 0; have m1 := H5.out.1.cell 1; have m2 := H5.out.1.cell 2; have m3 := H5.out.1.cell 3; have m4 := H5.out.1.cell 4; rw [show (movC (s : Int) (s : Int) 0 3 false)[0]? = some (.int .i8 (s : Int)) from rfl] at m0; rw [show (movC (s : Int) (s : Int) 0 3 false)[1]? = some (.int .i8 (s : Int)) from rfl] at m1; rw [show (movC (s : Int) (s : Int) 0 3 false)[2]? = some (.int .u8 0) from rfl] at m2; rw [show (movC (s : Int) (s : Int) 0 3 false)[3]? = some (.int .u8 3) from rfl] at m3; rw [show (movC (s : Int) (s : Int) 0 3 false)[4]? = some (.bool false) from rfl] at m4; clear hP hq))
    go_ret
    exact ⟨by first | rfl | simp, H5.out.2⟩
  by_cases h4 : k = 4
  · subst h4
    obtain rfl : S = N.drop 4 s := N.textEnd_one hT (N.text_drop hk (by omega) (by omega) (by decide) rfl rfl rfl)
    have hcat : ((⟨#[46, 80, 78, 66, 82, 81]⟩ : ByteArray).extract 4 5 ++ ⟨#[64]⟩) ++ N.tx s = N.drop 4 s := rfl
    have z1 : ((⟨#[46, 80, 78, 66, 82, 81]⟩ : ByteArray).extract 4 5).size + (⟨#[64]⟩ : ByteArray).size ≤ 9223372036854775807 := Nat.le_of_ble_eq_true rfl
    have z2 : ((⟨#[46, 80, 78, 66, 82, 81]⟩ : ByteArray).extract 4 5 ++ ⟨#[64]⟩).size + (N.tx s).size ≤ 9223372036854775807 := Nat.le_of_ble_eq_true rfl
    have hne : (N.drop 4 s).toList.isEmpty = false := by rw [← Bool.not_eq_true, N.empty_list]; exact fun e => absurd (N.list_of (b := []) e) (by simp)
    clear hT hk hs
    generalize N.drop 4 s = D at *
    generalize N.tx s = TX at *
    go_enter Tryd.func7, Tryd.ntmps7
    go_wp2_with (first
      | (go_at_call 11; (with_reducible refine (awake11_any _).mono ?_); rintro r w1 ⟨rfl, hb⟩; have H1 := Lib.hid (And.intro (H0.out.1.below hb) (below_next H0.out.2 hb)); have c0 := H1.out.1.cell (i := 0) (by decide); have c78 := H1.out.1.cell (i := 78) (by decide); rw [show pk 0 = .u8 from rfl] at c0; rw [show pk 78 = .u8 from rfl] at c78; clear hb)
      | (go_at_call 13; (with_reducible refine (HSq.out _).mono ?_); rintro r w2 ⟨rfl, hb⟩; have H2 := Lib.hid (And.intro (H1.out.1.below hb) (below_next H1.out.2 hb)); clear hb)
      | ((with_reducible refine wp_load_box_g rfl _ rfl ?_); refine ⟨_, c, rfl, H3.out.1, ?_⟩)
      | ((with_reducible refine wp_load_box_g rfl _ rfl ?_); refine ⟨_, c, rfl, H2.out.1, ?_⟩)
      | (go_at_call 9; (with_reducible refine (HT.out _).mono ?_); rintro r w3 ⟨rfl, hb⟩; have H3 := Lib.hid (And.intro (H2.out.1.below hb) (below_next H2.out.2 hb)); clear hb)
      | (go_at_call 12; (with_reducible refine (HP.out _).mono ?_); rintro r w4 ⟨rfl, hb⟩; have H4 := Lib.hid (below_next (H3.out.2.alloc H3.out.2.size _) hb); clear hb)
      | ((with_reducible refine wp_store_row' rfl 33 _ _ rfl ?_); refine ⟨w4.heap.size, 33, movC (s : Int) (s : Int) 0 3 false, rfl, rfl, ⟨_, heap_alloc_new _ _, (by kernel_rfl)⟩, Tryd.info_mvB _ _ _ _ _, Tryd.one_mvB _ _ _ _ _, ?_⟩; intro W5 hP hq; have H5 := Lib.hid (And.intro hq (hP.below (H4.out.alloc H4.out.size _) H4.out.size)); have m0 := H5.out.1.cell 0; have m1 := H5.out.1.cell 1; have m2 := H5.out.1.cell 2; have m3 := H5.out.1.cell 3; have m4 := H5.out.1.cell 4; rw [show (movC (s : Int) (s : Int) 0 3 false)[0]? = some (.int .i8 (s : Int)) from rfl] at m0; rw [show (movC (s : Int) (s : Int) 0 3 false)[1]? = some (.int .i8 (s : Int)) from rfl] at m1; rw [show (movC (s : Int) (s : Int) 0 3 false)[2]? = some (.int .u8 0) from rfl] at m2; rw [show (movC (s : Int) (s : Int) 0 3 false)[3]? = some (.int .u8 3) from rfl] at m3; rw [show (movC (s : Int) (s : Int) 0 3 false)[4]? = some (.bool false) from rfl] at m4; clear hP hq))
    go_ret
    exact ⟨by first | rfl | simp, H5.out.2⟩
  by_cases h5 : k = 5
  · subst h5
    obtain rfl : S = N.drop 5 s := N.textEnd_one hT (N.text_drop hk (by omega) (by omega) (by decide) rfl rfl rfl)
    have hcat : ((⟨#[46, 80, 78, 66, 82, 81]⟩ : ByteArray).extract 5 6 ++ ⟨#[64]⟩) ++ N.tx s = N.drop 5 s := rfl
    have z1 : ((⟨#[46, 80, 78, 66, 82, 81]⟩ : ByteArray).extract 5 6).size + (⟨#[64]⟩ : ByteArray).size ≤ 9223372036854775807 := Nat.le_of_ble_eq_true rfl
    have z2 : ((⟨#[46, 80, 78, 66, 82, 81]⟩ : ByteArray).extract 5 6 ++ ⟨#[64]⟩).size + (N.tx s).size ≤ 9223372036854775807 := Nat.le_of_ble_eq_true rfl
    have hne : (N.drop 5 s).toList.isEmpty = false := by rw [← Bool.not_eq_true, N.empty_list]; exact fun e => absurd (N.list_of (b := []) e) (by simp)
    clear hT hk hs
    generalize N.drop 5 s = D at *
    generalize N.tx s = TX at *
    go_enter Tryd.func7, Tryd.ntmps7
    go_wp2_with (first
      | (go_at_call 11; (with_reducible refine (awake11_any _).mono ?_); rintro r w1 ⟨rfl, hb⟩; have H1 := Lib.hid (And.intro (H0.out.1.below hb) (below_next H0.out.2 hb)); have c0 := H1.out.1.cell (i := 0) (by decide); have c78 := H1.out.1.cell (i := 78) (by decide); rw [show pk 0 = .u8 from rfl] at c0; rw [show pk 78 = .u8 from rfl] at c78; clear hb)
      | (go_at_call 13; (with_reducible refine (HSq.out _).mono ?_); rintro r w2 ⟨rfl, hb⟩; have H2 := Lib.hid (And.intro (H1.out.1.below hb) (below_next H1.out.2 hb)); clear hb)
      | ((with_reducible refine wp_load_box_g rfl _ rfl ?_); refine ⟨_, c, rfl, H3.out.1, ?_⟩)
      | ((with_reducible refine wp_load_box_g rfl _ rfl ?_); refine ⟨_, c, rfl, H2.out.1, ?_⟩)
      | (go_at_call 9; (with_reducible refine (HT.out _).mono ?_); rintro r w3 ⟨rfl, hb⟩; have H3 := Lib.hid (And.intro (H2.out.1.below hb) (below_next H2.out.2 hb)); clear hb)
      | (go_at_call 12; (with_reducible refine (HP.out _).mono ?_); rintro r w4 ⟨rfl, hb⟩; have H4 := Lib.hid (below_next (H3.out.2.alloc H3.out.2.size _) hb); clear hb)
      | ((with_reducible refine wp_store_row' rfl 33 _ _ rfl ?_); refine ⟨w4.heap.size, 33, movC (s : Int) (s : Int) 0 3 false, rfl, rfl, ⟨_, heap_alloc_new _ _, (by kernel_rfl)⟩, Tryd.info_mvB _ _ _ _ _, Tryd.one_mvB _ _ _ _ _, ?_⟩; intro W5 hP hq; have H5 := Lib.hid (And.intro hq (hP.below (H4.out.alloc H4.out.size _) H4.out.size)); have m0 := H5.out.1.cell 0; have m1 := H5.out.1.cell 1; have m2 := H5.out.1.cell 2; have m3 := H5.out.1.cell 3; have m4 := H5.out.1.cell 4; rw [show (movC (s : Int) (s : Int) 0 3 false)[0]? = some (.int .i8 (s : Int)) from rfl] at m0; rw [show (movC (s : Int) (s : Int) 0 3 false)[1]? = some (.int .i8 (s : Int)) from rfl] at m1; rw [show (movC (s : Int) (s : Int) 0 3 false)[2]? = some (.int .u8 0) from rfl] at m2; rw [show (movC (s : Int) (s : Int) 0 3 false)[3]? = some (.int .u8 3) from rfl] at m3; rw [show (movC (s : Int) (s : Int) 0 3 false)[4]? = some (.bool false) from rfl] at m4; clear hP hq))
    go_ret
    exact ⟨by first | rfl | simp, H5.out.2⟩
  have k5 : decide (5 < k) = true := by simp; omega
  have k00 : (k == 0) = false := by simpa using h0
  obtain rfl : S = ⟨#[]⟩ := N.textEnd_one hT (N.text_noDrop (by omega) (fun h => by omega))
  clear hT hk h0 h1 h2 h3 h4 h5 hk0 hs
  generalize N.tx s = TX at *
  go_enter Tryd.func7, Tryd.ntmps7
  go_wp2_with (first
    | (go_at_call 11; (with_reducible refine (awake11_any _).mono ?_); rintro r w1 ⟨rfl, hb⟩; have H1 := Lib.hid (And.intro (H0.out.1.below hb) (below_next H0.out.2 hb)); have c0 := H1.out.1.cell (i := 0) (by decide); have c78 := H1.out.1.cell (i := 78) (by decide); rw [show pk 0 = .u8 from rfl] at c0; rw [show pk 78 = .u8 from rfl] at c78; clear hb)
    | (go_at_call 13; (with_reducible refine (HSq.out _).mono ?_); rintro r w2 ⟨rfl, hb⟩; have H2 := Lib.hid (And.intro (H1.out.1.below hb) (below_next H1.out.2 hb)); clear hb)
    | ((with_reducible refine wp_load_box_g rfl _ rfl ?_); refine ⟨_, c, rfl, H3.out.1, ?_⟩)
    | ((with_reducible refine wp_load_box_g rfl _ rfl ?_); refine ⟨_, c, rfl, H2.out.1, ?_⟩)
    | (go_at_call 9; (with_reducible refine (HT.out _).mono ?_); rintro r w3 ⟨rfl, hb⟩; have H3 := Lib.hid (And.intro (H2.out.1.below hb) (below_next H2.out.2 hb)); clear hb)
    | (go_at_call 12; (with_reducible refine (HP.out _).mono ?_); rintro r w4 ⟨rfl, hb⟩; have H4 := Lib.hid (below_next (H3.out.2.alloc H3.out.2.size _) hb); clear hb)
    | ((with_reducible refine wp_store_row' rfl 33 _ _ rfl ?_); refine ⟨w4.heap.size, 33, movC (s : Int) (s : Int) 0 3 false, rfl, rfl, ⟨_, heap_alloc_new _ _, (by kernel_rfl)⟩, Tryd.info_mvB _ _ _ _ _, Tryd.one_mvB _ _ _ _ _, ?_⟩; intro W5 hP hq; have H5 := Lib.hid (And.intro hq (hP.below (H4.out.alloc H4.out.size _) H4.out.size)); have m0 := H5.out.1.cell 0; have m1 := H5.out.1.cell 1; have m2 := H5.out.1.cell 2; have m3 := H5.out.1.cell 3; have m4 := H5.out.1.cell 4; rw [show (movC (s : Int) (s : Int) 0 3 false)[0]? = some (.int .i8 (s : Int)) from rfl] at m0; rw [show (movC (s : Int) (s : Int) 0 3 false)[1]? = some (.int .i8 (s : Int)) from rfl] at m1; rw [show (movC (s : Int) (s : Int) 0 3 false)[2]? = some (.int .u8 0) from rfl] at m2; rw [show (movC (s : Int) (s : Int) 0 3 false)[3]? = some (.int .u8 3) from rfl] at m3; rw [show (movC (s : Int) (s : Int) 0 3 false)[4]? = some (.bool false) from rfl] at m4; clear hP hq))
  go_ret
  exact ⟨by first | rfl | simp, H5.out.2⟩

set_option maxRecDepth 100000 in
set_option maxHeartbeats 8000000 in
theorem movesDrops_4 (c : Nat → Int) (s : Nat) (k : Int) (w : World) (hc : PosOk c) (hk : N.known c) (hs : s < 64) (hk0 : 0 ≤ k ∧ k ≤ 255) :
    Calls Tryd.prog 7 #[.agg (posC c), .int .i8 (s : Int), .int .u8 k, .int .u8 82] w fun e w' => e = .returned (.bool true) ∧ Below w.heap.size w w' := by
  have H0 := Lib.hid (And.intro (PosAt.new w c) ((Below.refl _ w).alloc (Nat.le_refl _) (.cells (posC c) 31)))
  have HSq : Hid (∀ W, Calls Tryd.prog 13 #[.int .i64 (s : Int)] W fun e w' => e = .returned (.string (N.tx s)) ∧ Below W.heap.size W w') := Lib.hid (fun W => sqtext_any s W hs)
  have hk0' := hk.1
  have hk1' := hk.2
  have d0 : decide (9 ≤ c 0) = false := by simp; omega
  have d1 : decide (1 < c 78) = false := by simp; omega
  have d2 : decide ((s : Int) < 0) = false := by simp
  have d3 : decide (63 < (s : Int)) = false := by simp; omega
  have ws := i8_i64 hs
  clear hk0' hk1'
  obtain ⟨S, hT, hTC⟩ := mvText_fix c (s : Int) (s : Int) 0 k false hc (by unfold MovOk; omega)
  have HT0 := Lib.hid hTC
  have HT : Hid (∀ W, Calls Tryd.prog 9 #[.agg (posC c), .agg #[.int .i8 (s : Int), .int .i8 (s : Int), .int .u8 0, .int .u8 k, .bool false]] W fun e w' => e = .returned (.string S) ∧ Below W.heap.size W w') := Lib.hid HT0.out
  clear hTC HT0
  obtain ⟨f2, g2, x2, y2, z2, e2, hP, hPC⟩ := mvParse_fix c (N.by2 82 s) hc (N.by2_size _ _)
  obtain ⟨rfl, rfl, rfl, rfl, rfl, rfl⟩ := N.parse_ok hP (show N.Text c (s : Int) (s : Int) 0 4 false (N.by2 82 s) from ⟨hk, ⟨by omega, by omega⟩, .inl ⟨by omega, rfl, rfl, rfl, rfl⟩⟩)
  have HP : Hid (∀ W, Calls Tryd.prog 12 #[.agg (posC c), .string (⟨#[UInt8.ofNat 82, UInt8.ofNat 64]⟩ ++ N.tx s)] W fun e w' => e = .returned (.tuple #[.agg (movC (s : Int) (s : Int) 0 4 false), .int .i64 0]) ∧ Below W.heap.size W w') := Lib.hid hPC
  have z3 : (⟨#[UInt8.ofNat 82, UInt8.ofNat 64]⟩ : ByteArray).size + (N.tx s).size ≤ 9223372036854775807 := Nat.le_of_ble_eq_true rfl
  have hcv : ∀ W : World, (convert 44 9 (.slice (some ⟨W.heap.size, 0, none⟩) 2 2)).run Tryd.prog (W.alloc (.cells #[.int .u8 82, .int .u8 64] 5)) = .ok (.string ⟨#[UInt8.ofNat 82, UInt8.ofNat 64]⟩) (W.alloc (.cells #[.int .u8 82, .int .u8 64] 5)) := fun W => two_bytes 82 64 W (by decide) (by decide)
  generalize (⟨#[UInt8.ofNat 82, UInt8.ofNat 64]⟩ : ByteArray) = BS at *
  clear hPC hP hc
  by_cases h0 : k = 0
  · subst h0
    obtain rfl : S = ⟨#[]⟩ := N.textEnd_one hT (N.text_same (.inl rfl))
    clear hT hk hs
    generalize N.tx s = TX at *
    go_enter Tryd.func7, Tryd.ntmps7
    go_wp2_with (first
      | (go_at_call 11; (with_reducible refine (awake11_any _).mono ?_); rintro r w1 ⟨rfl, hb⟩; have H1 := Lib.hid (And.intro (H0.out.1.below hb) (below_next H0.out.2 hb)); have c0 := H1.out.1.cell (i := 0) (by decide); have c78 := H1.out.1.cell (i := 78) (by decide); rw [show pk 0 = .u8 from rfl] at c0; rw [show pk 78 = .u8 from rfl] at c78; clear hb)
      | (go_at_call 13; (with_reducible refine (HSq.out _).mono ?_); rintro r w2 ⟨rfl, hb⟩; have H2 := Lib.hid (And.intro (H1.out.1.below hb) (below_next H1.out.2 hb)); clear hb)
      | ((with_reducible refine wp_load_box_g rfl _ rfl ?_); refine ⟨_, c, rfl, H3.out.1, ?_⟩)
      | ((with_reducible refine wp_load_box_g rfl _ rfl ?_); refine ⟨_, c, rfl, H2.out.1, ?_⟩)
      | (go_at_call 9; (with_reducible refine (HT.out _).mono ?_); rintro r w3 ⟨rfl, hb⟩; have H3 := Lib.hid (And.intro (H2.out.1.below hb) (below_next H2.out.2 hb)); clear hb)
      | (go_at_call 12; (with_reducible refine (HP.out _).mono ?_); rintro r w4 ⟨rfl, hb⟩; have H4 := Lib.hid (below_next (H3.out.2.alloc H3.out.2.size _) hb); clear hb)
      | ((with_reducible refine wp_store_row' rfl 33 _ _ rfl ?_); refine ⟨w4.heap.size, 33, movC (s : Int) (s : Int) 0 4 false, rfl, rfl, ⟨_, heap_alloc_new _ _, (by kernel_rfl)⟩, Tryd.info_mvB _ _ _ _ _, Tryd.one_mvB _ _ _ _ _, ?_⟩; intro W5 hP hq; have H5 := Lib.hid (And.intro hq (hP.below (H4.out.alloc H4.out.size _) H4.out.size)); have m0 := H5.out.1.cell 0; have m1 := H5.out.1.cell 1; have m2 := H5.out.1.cell 2; have m3 := H5.out.1.cell 3; have m4 := H5.out.1.cell 4; rw [show (movC (s : Int) (s : Int) 0 4 false)[0]? = some (.int .i8 (s : Int)) from rfl] at m0; rw [show (movC (s : Int) (s : Int) 0 4 false)[1]? = some (.int .i8 (s : Int)) from rfl] at m1; rw [show (movC (s : Int) (s : Int) 0 4 false)[2]? = some (.int .u8 0) from rfl] at m2; rw [show (movC (s : Int) (s : Int) 0 4 false)[3]? = some (.int .u8 4) from rfl] at m3; rw [show (movC (s : Int) (s : Int) 0 4 false)[4]? = some (.bool false) from rfl] at m4; clear hP hq))
    go_ret
    exact ⟨by first | rfl | simp, H5.out.2⟩
  by_cases h1 : k = 1
  · subst h1
    obtain rfl : S = N.drop 1 s := N.textEnd_one hT (N.text_drop hk (by omega) (by omega) (by decide) rfl rfl rfl)
    have hcat : ((⟨#[46, 80, 78, 66, 82, 81]⟩ : ByteArray).extract 1 2 ++ ⟨#[64]⟩) ++ N.tx s = N.drop 1 s := rfl
    have z1 : ((⟨#[46, 80, 78, 66, 82, 81]⟩ : ByteArray).extract 1 2).size + (⟨#[64]⟩ : ByteArray).size ≤ 9223372036854775807 := Nat.le_of_ble_eq_true rfl
    have z2 : ((⟨#[46, 80, 78, 66, 82, 81]⟩ : ByteArray).extract 1 2 ++ ⟨#[64]⟩).size + (N.tx s).size ≤ 9223372036854775807 := Nat.le_of_ble_eq_true rfl
    have hne : (N.drop 1 s).toList.isEmpty = false := by rw [← Bool.not_eq_true, N.empty_list]; exact fun e => absurd (N.list_of (b := []) e) (by simp)
    clear hT hk hs
    generalize N.drop 1 s = D at *
    generalize N.tx s = TX at *
    go_enter Tryd.func7, Tryd.ntmps7
    go_wp2_with (first
      | (go_at_call 11; (with_reducible refine (awake11_any _).mono ?_); rintro r w1 ⟨rfl, hb⟩; have H1 := Lib.hid (And.intro (H0.out.1.below hb) (below_next H0.out.2 hb)); have c0 := H1.out.1.cell (i := 0) (by decide); have c78 := H1.out.1.cell (i := 78) (by decide); rw [show pk 0 = .u8 from rfl] at c0; rw [show pk 78 = .u8 from rfl] at c78; clear hb)
      | (go_at_call 13; (with_reducible refine (HSq.out _).mono ?_); rintro r w2 ⟨rfl, hb⟩; have H2 := Lib.hid (And.intro (H1.out.1.below hb) (below_next H1.out.2 hb)); clear hb)
      | ((with_reducible refine wp_load_box_g rfl _ rfl ?_); refine ⟨_, c, rfl, H3.out.1, ?_⟩)
      | ((with_reducible refine wp_load_box_g rfl _ rfl ?_); refine ⟨_, c, rfl, H2.out.1, ?_⟩)
      | (go_at_call 9; (with_reducible refine (HT.out _).mono ?_); rintro r w3 ⟨rfl, hb⟩; have H3 := Lib.hid (And.intro (H2.out.1.below hb) (below_next H2.out.2 hb)); clear hb)
      | (go_at_call 12; (with_reducible refine (HP.out _).mono ?_); rintro r w4 ⟨rfl, hb⟩; have H4 := Lib.hid (below_next (H3.out.2.alloc H3.out.2.size _) hb); clear hb)
      | ((with_reducible refine wp_store_row' rfl 33 _ _ rfl ?_); refine ⟨w4.heap.size, 33, movC (s : Int) (s : Int) 0 4 false, rfl, rfl, ⟨_, heap_alloc_new _ _, (by kernel_rfl)⟩, Tryd.info_mvB _ _ _ _ _, Tryd.one_mvB _ _ _ _ _, ?_⟩; intro W5 hP hq; have H5 := Lib.hid (And.intro hq (hP.below (H4.out.alloc H4.out.size _) H4.out.size)); have m0 := H5.out.1.cell 0; have m1 := H5.out.1.cell 1; have m2 := H5.out.1.cell 2; have m3 := H5.out.1.cell 3; have m4 := H5.out.1.cell 4; rw [show (movC (s : Int) (s : Int) 0 4 false)[0]? = some (.int .i8 (s : Int)) from rfl] at m0; rw [show (movC (s : Int) (s : Int) 0 4 false)[1]? = some (.int .i8 (s : Int)) from rfl] at m1; rw [show (movC (s : Int) (s : Int) 0 4 false)[2]? = some (.int .u8 0) from rfl] at m2; rw [show (movC (s : Int) (s : Int) 0 4 false)[3]? = some (.int .u8 4) from rfl] at m3; rw [show (movC (s : Int) (s : Int) 0 4 false)[4]? = some (.bool false) from rfl] at m4; clear hP hq))
    go_ret
    exact ⟨by first | rfl | simp, H5.out.2⟩
  by_cases h2 : k = 2
  · subst h2
    obtain rfl : S = N.drop 2 s := N.textEnd_one hT (N.text_drop hk (by omega) (by omega) (by decide) rfl rfl rfl)
    have hcat : ((⟨#[46, 80, 78, 66, 82, 81]⟩ : ByteArray).extract 2 3 ++ ⟨#[64]⟩) ++ N.tx s = N.drop 2 s := rfl
    have z1 : ((⟨#[46, 80, 78, 66, 82, 81]⟩ : ByteArray).extract 2 3).size + (⟨#[64]⟩ : ByteArray).size ≤ 9223372036854775807 := Nat.le_of_ble_eq_true rfl
    have z2 : ((⟨#[46, 80, 78, 66, 82, 81]⟩ : ByteArray).extract 2 3 ++ ⟨#[64]⟩).size + (N.tx s).size ≤ 9223372036854775807 := Nat.le_of_ble_eq_true rfl
    have hne : (N.drop 2 s).toList.isEmpty = false := by rw [← Bool.not_eq_true, N.empty_list]; exact fun e => absurd (N.list_of (b := []) e) (by simp)
    clear hT hk hs
    generalize N.drop 2 s = D at *
    generalize N.tx s = TX at *
    go_enter Tryd.func7, Tryd.ntmps7
    go_wp2_with (first
      | (go_at_call 11; (with_reducible refine (awake11_any _).mono ?_); rintro r w1 ⟨rfl, hb⟩; have H1 := Lib.hid (And.intro (H0.out.1.below hb) (below_next H0.out.2 hb)); have c0 := H1.out.1.cell (i := 0) (by decide); have c78 := H1.out.1.cell (i := 78) (by decide); rw [show pk 0 = .u8 from rfl] at c0; rw [show pk 78 = .u8 from rfl] at c78; clear hb)
      | (go_at_call 13; (with_reducible refine (HSq.out _).mono ?_); rintro r w2 ⟨rfl, hb⟩; have H2 := Lib.hid (And.intro (H1.out.1.below hb) (below_next H1.out.2 hb)); clear hb)
      | ((with_reducible refine wp_load_box_g rfl _ rfl ?_); refine ⟨_, c, rfl, H3.out.1, ?_⟩)
      | ((with_reducible refine wp_load_box_g rfl _ rfl ?_); refine ⟨_, c, rfl, H2.out.1, ?_⟩)
      | (go_at_call 9; (with_reducible refine (HT.out _).mono ?_); rintro r w3 ⟨rfl, hb⟩; have H3 := Lib.hid (And.intro (H2.out.1.below hb) (below_next H2.out.2 hb)); clear hb)
      | (go_at_call 12; (with_reducible refine (HP.out _).mono ?_); rintro r w4 ⟨rfl, hb⟩; have H4 := Lib.hid (below_next (H3.out.2.alloc H3.out.2.size _) hb); clear hb)
      | ((with_reducible refine wp_store_row' rfl 33 _ _ rfl ?_); refine ⟨w4.heap.size, 33, movC (s : Int) (s : Int) 0 4 false, rfl, rfl, ⟨_, heap_alloc_new _ _, (by kernel_rfl)⟩, Tryd.info_mvB _ _ _ _ _, Tryd.one_mvB _ _ _ _ _, ?_⟩; intro W5 hP hq; have H5 := Lib.hid (And.intro hq (hP.below (H4.out.alloc H4.out.size _) H4.out.size)); have m0 := H5.out.1.cell 0; have m1 := H5.out.1.cell 1; have m2 := H5.out.1.cell 2; have m3 := H5.out.1.cell 3; have m4 := H5.out.1.cell 4; rw [show (movC (s : Int) (s : Int) 0 4 false)[0]? = some (.int .i8 (s : Int)) from rfl] at m0; rw [show (movC (s : Int) (s : Int) 0 4 false)[1]? = some (.int .i8 (s : Int)) from rfl] at m1; rw [show (movC (s : Int) (s : Int) 0 4 false)[2]? = some (.int .u8 0) from rfl] at m2; rw [show (movC (s : Int) (s : Int) 0 4 false)[3]? = some (.int .u8 4) from rfl] at m3; rw [show (movC (s : Int) (s : Int) 0 4 false)[4]? = some (.bool false) from rfl] at m4; clear hP hq))
    go_ret
    exact ⟨by first | rfl | simp, H5.out.2⟩
  by_cases h3 : k = 3
  · subst h3
    obtain rfl : S = N.drop 3 s := N.textEnd_one hT (N.text_drop hk (by omega) (by omega) (by decide) rfl rfl rfl)
    have hcat : ((⟨#[46, 80, 78, 66, 82, 81]⟩ : ByteArray).extract 3 4 ++ ⟨#[64]⟩) ++ N.tx s = N.drop 3 s := rfl
    have z1 : ((⟨#[46, 80, 78, 66, 82, 81]⟩ : ByteArray).extract 3 4).size + (⟨#[64]⟩ : ByteArray).size ≤ 9223372036854775807 := Nat.le_of_ble_eq_true rfl
    have z2 : ((⟨#[46, 80, 78, 66, 82, 81]⟩ : ByteArray).extract 3 4 ++ ⟨#[64]⟩).size + (N.tx s).size ≤ 9223372036854775807 := Nat.le_of_ble_eq_true rfl
    have hne : (N.drop 3 s).toList.isEmpty = false := by rw [← Bool.not_eq_true, N.empty_list]; exact fun e => absurd (N.list_of (b := []) e) (by simp)
    clear hT hk hs
    generalize N.drop 3 s = D at *
    generalize N.tx s = TX at *
    go_enter Tryd.func7, Tryd.ntmps7
    go_wp2_with (first
      | (go_at_call 11; (with_reducible refine (awake11_any _).mono ?_); rintro r w1 ⟨rfl, hb⟩; have H1 := Lib.hid (And.intro (H0.out.1.below hb) (below_next H0.out.2 hb)); have c0 := H1.out.1.cell (i := 0) (by decide); have c78 := H1.out.1.cell (i := 78) (by decide); rw [show pk 0 = .u8 from rfl] at c0; rw [show pk 78 = .u8 from rfl] at c78; clear hb)
      | (go_at_call 13; (with_reducible refine (HSq.out _).mono ?_); rintro r w2 ⟨rfl, hb⟩; have H2 := Lib.hid (And.intro (H1.out.1.below hb) (below_next H1.out.2 hb)); clear hb)
      | ((with_reducible refine wp_load_box_g rfl _ rfl ?_); refine ⟨_, c, rfl, H3.out.1, ?_⟩)
      | ((with_reducible refine wp_load_box_g rfl _ rfl ?_); refine ⟨_, c, rfl, H2.out.1, ?_⟩)
      | (go_at_call 9; (with_reducible refine (HT.out _).mono ?_); rintro r w3 ⟨rfl, hb⟩; have H3 := Lib.hid (And.intro (H2.out.1.below hb) (below_next H2.out.2 hb)); clear hb)
      | (go_at_call 12; (with_reducible refine (HP.out _).mono ?_); rintro r w4 ⟨rfl, hb⟩; have H4 := Lib.hid (below_next (H3.out.2.alloc H3.out.2.size _) hb); clear hb)
      | ((with_reducible refine wp_store_row' rfl 33 _ _ rfl ?_); refine ⟨w4.heap.size, 33, movC (s : Int) (s : Int) 0 4 false, rfl, rfl, ⟨_, heap_alloc_new _ _, (by kernel_rfl)⟩, Tryd.info_mvB _ _ _ _ _, Tryd.one_mvB _ _ _ _ _, ?_⟩; intro W5 hP hq; have H5 := Lib.hid (And.intro hq (hP.below (H4.out.alloc H4.out.size _) H4.out.size)); have m0 := H5.out.1.cell 0; have m1 := H5.out.1.cell 1; have m2 := H5.out.1.cell 2; have m3 := H5.out.1.cell 3; have m4 := H5.out.1.cell 4; rw [show (movC (s : Int) (s : Int) 0 4 false)[0]? = some (.int .i8 (s : Int)) from rfl] at m0; rw [show (movC (s : Int) (s : Int) 0 4 false)[1]? = some (.int .i8 (s : Int)) from rfl] at m1; rw [show (movC (s : Int) (s : Int) 0 4 false)[2]? = some (.int .u8 0) from rfl] at m2; rw [show (movC (s : Int) (s : Int) 0 4 false)[3]? = some (.int .u8 4) from rfl] at m3; rw [show (movC (s : Int) (s : Int) 0 4 false)[4]? = some (.bool false) from rfl] at m4; clear hP hq))
    go_ret
    exact ⟨by first | rfl | simp, H5.out.2⟩
  by_cases h4 : k = 4
  · subst h4
    obtain rfl : S = N.drop 4 s := N.textEnd_one hT (N.text_drop hk (by omega) (by omega) (by decide) rfl rfl rfl)
    have hcat : ((⟨#[46, 80, 78, 66, 82, 81]⟩ : ByteArray).extract 4 5 ++ ⟨#[64]⟩) ++ N.tx s = N.drop 4 s := rfl
    have z1 : ((⟨#[46, 80, 78, 66, 82, 81]⟩ : ByteArray).extract 4 5).size + (⟨#[64]⟩ : ByteArray).size ≤ 9223372036854775807 := Nat.le_of_ble_eq_true rfl
    have z2 : ((⟨#[46, 80, 78, 66, 82, 81]⟩ : ByteArray).extract 4 5 ++ ⟨#[64]⟩).size + (N.tx s).size ≤ 9223372036854775807 := Nat.le_of_ble_eq_true rfl
    have hne : (N.drop 4 s).toList.isEmpty = false := by rw [← Bool.not_eq_true, N.empty_list]; exact fun e => absurd (N.list_of (b := []) e) (by simp)
    clear hT hk hs
    generalize N.drop 4 s = D at *
    generalize N.tx s = TX at *
    go_enter Tryd.func7, Tryd.ntmps7
    go_wp2_with (first
      | (go_at_call 11; (with_reducible refine (awake11_any _).mono ?_); rintro r w1 ⟨rfl, hb⟩; have H1 := Lib.hid (And.intro (H0.out.1.below hb) (below_next H0.out.2 hb)); have c0 := H1.out.1.cell (i := 0) (by decide); have c78 := H1.out.1.cell (i := 78) (by decide); rw [show pk 0 = .u8 from rfl] at c0; rw [show pk 78 = .u8 from rfl] at c78; clear hb)
      | (go_at_call 13; (with_reducible refine (HSq.out _).mono ?_); rintro r w2 ⟨rfl, hb⟩; have H2 := Lib.hid (And.intro (H1.out.1.below hb) (below_next H1.out.2 hb)); clear hb)
      | ((with_reducible refine wp_load_box_g rfl _ rfl ?_); refine ⟨_, c, rfl, H3.out.1, ?_⟩)
      | ((with_reducible refine wp_load_box_g rfl _ rfl ?_); refine ⟨_, c, rfl, H2.out.1, ?_⟩)
      | (go_at_call 9; (with_reducible refine (HT.out _).mono ?_); rintro r w3 ⟨rfl, hb⟩; have H3 := Lib.hid (And.intro (H2.out.1.below hb) (below_next H2.out.2 hb)); clear hb)
      | (go_at_call 12; (with_reducible refine (HP.out _).mono ?_); rintro r w4 ⟨rfl, hb⟩; have H4 := Lib.hid (below_next (H3.out.2.alloc H3.out.2.size _) hb); clear hb)
      | ((with_reducible refine wp_store_row' rfl 33 _ _ rfl ?_); refine ⟨w4.heap.size, 33, movC (s : Int) (s : Int) 0 4 false, rfl, rfl, ⟨_, heap_alloc_new _ _, (by kernel_rfl)⟩, Tryd.info_mvB _ _ _ _ _, Tryd.one_mvB _ _ _ _ _, ?_⟩; intro W5 hP hq; have H5 := Lib.hid (And.intro hq (hP.below (H4.out.alloc H4.out.size _) H4.out.size)); have m0 := H5.out.1.cell 0; have m1 := H5.out.1.cell 1; have m2 := H5.out.1.cell 2; have m3 := H5.out.1.cell 3; have m4 := H5.out.1.cell 4; rw [show (movC (s : Int) (s : Int) 0 4 false)[0]? = some (.int .i8 (s : Int)) from rfl] at m0; rw [show (movC (s : Int) (s : Int) 0 4 false)[1]? = some (.int .i8 (s : Int)) from rfl] at m1; rw [show (movC (s : Int) (s : Int) 0 4 false)[2]? = some (.int .u8 0) from rfl] at m2; rw [show (movC (s : Int) (s : Int) 0 4 false)[3]? = some (.int .u8 4) from rfl] at m3; rw [show (movC (s : Int) (s : Int) 0 4 false)[4]? = some (.bool false) from rfl] at m4; clear hP hq))
    go_ret
    exact ⟨by first | rfl | simp, H5.out.2⟩
  by_cases h5 : k = 5
  · subst h5
    obtain rfl : S = N.drop 5 s := N.textEnd_one hT (N.text_drop hk (by omega) (by omega) (by decide) rfl rfl rfl)
    have hcat : ((⟨#[46, 80, 78, 66, 82, 81]⟩ : ByteArray).extract 5 6 ++ ⟨#[64]⟩) ++ N.tx s = N.drop 5 s := rfl
    have z1 : ((⟨#[46, 80, 78, 66, 82, 81]⟩ : ByteArray).extract 5 6).size + (⟨#[64]⟩ : ByteArray).size ≤ 9223372036854775807 := Nat.le_of_ble_eq_true rfl
    have z2 : ((⟨#[46, 80, 78, 66, 82, 81]⟩ : ByteArray).extract 5 6 ++ ⟨#[64]⟩).size + (N.tx s).size ≤ 9223372036854775807 := Nat.le_of_ble_eq_true rfl
    have hne : (N.drop 5 s).toList.isEmpty = false := by rw [← Bool.not_eq_true, N.empty_list]; exact fun e => absurd (N.list_of (b := []) e) (by simp)
    clear hT hk hs
    generalize N.drop 5 s = D at *
    generalize N.tx s = TX at *
    go_enter Tryd.func7, Tryd.ntmps7
    go_wp2_with (first
      | (go_at_call 11; (with_reducible refine (awake11_any _).mono ?_); rintro r w1 ⟨rfl, hb⟩; have H1 := Lib.hid (And.intro (H0.out.1.below hb) (below_next H0.out.2 hb)); have c0 := H1.out.1.cell (i := 0) (by decide); have c78 := H1.out.1.cell (i := 78) (by decide); rw [show pk 0 = .u8 from rfl] at c0; rw [show pk 78 = .u8 from rfl] at c78; clear hb)
      | (go_at_call 13; (with_reducible refine (HSq.out _).mono ?_); rintro r w2 ⟨rfl, hb⟩; have H2 := Lib.hid (And.intro (H1.out.1.below hb) (below_next H1.out.2 hb)); clear hb)
      | ((with_reducible refine wp_load_box_g rfl _ rfl ?_); refine ⟨_, c, rfl, H3.out.1, ?_⟩)
      | ((with_reducible refine wp_load_box_g rfl _ rfl ?_); refine ⟨_, c, rfl, H2.out.1, ?_⟩)
      | (go_at_call 9; (with_reducible refine (HT.out _).mono ?_); rintro r w3 ⟨rfl, hb⟩; have H3 := Lib.hid (And.intro (H2.out.1.below hb) (below_next H2.out.2 hb)); clear hb)
      | (go_at_call 12; (with_reducible refine (HP.out _).mono ?_); rintro r w4 ⟨rfl, hb⟩; have H4 := Lib.hid (below_next (H3.out.2.alloc H3.out.2.size _) hb); clear hb)
      | ((with_reducible refine wp_store_row' rfl 33 _ _ rfl ?_); refine ⟨w4.heap.size, 33, movC (s : Int) (s : Int) 0 4 false, rfl, rfl, ⟨_, heap_alloc_new _ _, (by kernel_rfl)⟩, Tryd.info_mvB _ _ _ _ _, Tryd.one_mvB _ _ _ _ _, ?_⟩; intro W5 hP hq; have H5 := Lib.hid (And.intro hq (hP.below (H4.out.alloc H4.out.size _) H4.out.size)); have m0 := H5.out.1.cell 0; have m1 := H5.out.1.cell 1; have m2 := H5.out.1.cell 2; have m3 := H5.out.1.cell 3; have m4 := H5.out.1.cell 4; rw [show (movC (s : Int) (s : Int) 0 4 false)[0]? = some (.int .i8 (s : Int)) from rfl] at m0; rw [show (movC (s : Int) (s : Int) 0 4 false)[1]? = some (.int .i8 (s : Int)) from rfl] at m1; rw [show (movC (s : Int) (s : Int) 0 4 false)[2]? = some (.int .u8 0) from rfl] at m2; rw [show (movC (s : Int) (s : Int) 0 4 false)[3]? = some (.int .u8 4) from rfl] at m3; rw [show (movC (s : Int) (s : Int) 0 4 false)[4]? = some (.bool false) from rfl] at m4; clear hP hq))
    go_ret
    exact ⟨by first | rfl | simp, H5.out.2⟩
  have k5 : decide (5 < k) = true := by simp; omega
  have k00 : (k == 0) = false := by simpa using h0
  obtain rfl : S = ⟨#[]⟩ := N.textEnd_one hT (N.text_noDrop (by omega) (fun h => by omega))
  clear hT hk h0 h1 h2 h3 h4 h5 hk0 hs
  generalize N.tx s = TX at *
  go_enter Tryd.func7, Tryd.ntmps7
  go_wp2_with (first
    | (go_at_call 11; (with_reducible refine (awake11_any _).mono ?_); rintro r w1 ⟨rfl, hb⟩; have H1 := Lib.hid (And.intro (H0.out.1.below hb) (below_next H0.out.2 hb)); have c0 := H1.out.1.cell (i := 0) (by decide); have c78 := H1.out.1.cell (i := 78) (by decide); rw [show pk 0 = .u8 from rfl] at c0; rw [show pk 78 = .u8 from rfl] at c78; clear hb)
    | (go_at_call 13; (with_reducible refine (HSq.out _).mono ?_); rintro r w2 ⟨rfl, hb⟩; have H2 := Lib.hid (And.intro (H1.out.1.below hb) (below_next H1.out.2 hb)); clear hb)
    | ((with_reducible refine wp_load_box_g rfl _ rfl ?_); refine ⟨_, c, rfl, H3.out.1, ?_⟩)
    | ((with_reducible refine wp_load_box_g rfl _ rfl ?_); refine ⟨_, c, rfl, H2.out.1, ?_⟩)
    | (go_at_call 9; (with_reducible refine (HT.out _).mono ?_); rintro r w3 ⟨rfl, hb⟩; have H3 := Lib.hid (And.intro (H2.out.1.below hb) (below_next H2.out.2 hb)); clear hb)
    | (go_at_call 12; (with_reducible refine (HP.out _).mono ?_); rintro r w4 ⟨rfl, hb⟩; have H4 := Lib.hid (below_next (H3.out.2.alloc H3.out.2.size _) hb); clear hb)
    | ((with_reducible refine wp_store_row' rfl 33 _ _ rfl ?_); refine ⟨w4.heap.size, 33, movC (s : Int) (s : Int) 0 4 false, rfl, rfl, ⟨_, heap_alloc_new _ _, (by kernel_rfl)⟩, Tryd.info_mvB _ _ _ _ _, Tryd.one_mvB _ _ _ _ _, ?_⟩; intro W5 hP hq; have H5 := Lib.hid (And.intro hq (hP.below (H4.out.alloc H4.out.size _) H4.out.size)); have m0 := H5.out.1.cell 0; have m1 := H5.out.1.cell 1; have m2 := H5.out.1.cell 2; have m3 := H5.out.1.cell 3; have m4 := H5.out.1.cell 4; rw [show (movC (s : Int) (s : Int) 0 4 false)[0]? = some (.int .i8 (s : Int)) from rfl] at m0; rw [show (movC (s : Int) (s : Int) 0 4 false)[1]? = some (.int .i8 (s : Int)) from rfl] at m1; rw [show (movC (s : Int) (s : Int) 0 4 false)[2]? = some (.int .u8 0) from rfl] at m2; rw [show (movC (s : Int) (s : Int) 0 4 false)[3]? = some (.int .u8 4) from rfl] at m3; rw [show (movC (s : Int) (s : Int) 0 4 false)[4]? = some (.bool false) from rfl] at m4; clear hP hq))
  go_ret
  exact ⟨by first | rfl | simp, H5.out.2⟩

set_option maxRecDepth 100000 in
set_option maxHeartbeats 8000000 in
theorem movesDrops_5 (c : Nat → Int) (s : Nat) (k : Int) (w : World) (hc : PosOk c) (hk : N.known c) (hs : s < 64) (hk0 : 0 ≤ k ∧ k ≤ 255) :
    Calls Tryd.prog 7 #[.agg (posC c), .int .i8 (s : Int), .int .u8 k, .int .u8 81] w fun e w' => e = .returned (.bool true) ∧ Below w.heap.size w w' := by
  have H0 := Lib.hid (And.intro (PosAt.new w c) ((Below.refl _ w).alloc (Nat.le_refl _) (.cells (posC c) 31)))
  have HSq : Hid (∀ W, Calls Tryd.prog 13 #[.int .i64 (s : Int)] W fun e w' => e = .returned (.string (N.tx s)) ∧ Below W.heap.size W w') := Lib.hid (fun W => sqtext_any s W hs)
  have hk0' := hk.1
  have hk1' := hk.2
  have d0 : decide (9 ≤ c 0) = false := by simp; omega
  have d1 : decide (1 < c 78) = false := by simp; omega
  have d2 : decide ((s : Int) < 0) = false := by simp
  have d3 : decide (63 < (s : Int)) = false := by simp; omega
  have ws := i8_i64 hs
  clear hk0' hk1'
  obtain ⟨S, hT, hTC⟩ := mvText_fix c (s : Int) (s : Int) 0 k false hc (by unfold MovOk; omega)
  have HT0 := Lib.hid hTC
  have HT : Hid (∀ W, Calls Tryd.prog 9 #[.agg (posC c), .agg #[.int .i8 (s : Int), .int .i8 (s : Int), .int .u8 0, .int .u8 k, .bool false]] W fun e w' => e = .returned (.string S) ∧ Below W.heap.size W w') := Lib.hid HT0.out
  clear hTC HT0
  obtain ⟨f2, g2, x2, y2, z2, e2, hP, hPC⟩ := mvParse_fix c (N.by2 81 s) hc (N.by2_size _ _)
  obtain ⟨rfl, rfl, rfl, rfl, rfl, rfl⟩ := N.parse_ok hP (show N.Text c (s : Int) (s : Int) 0 5 false (N.by2 81 s) from ⟨hk, ⟨by omega, by omega⟩, .inl ⟨by omega, rfl, rfl, rfl, rfl⟩⟩)
  have HP : Hid (∀ W, Calls Tryd.prog 12 #[.agg (posC c), .string (⟨#[UInt8.ofNat 81, UInt8.ofNat 64]⟩ ++ N.tx s)] W fun e w' => e = .returned (.tuple #[.agg (movC (s : Int) (s : Int) 0 5 false), .int .i64 0]) ∧ Below W.heap.size W w') := Lib.hid hPC
  have z3 : (⟨#[UInt8.ofNat 81, UInt8.ofNat 64]⟩ : ByteArray).size + (N.tx s).size ≤ 9223372036854775807 := Nat.le_of_ble_eq_true rfl
  have hcv : ∀ W : World, (convert 44 9 (.slice (some ⟨W.heap.size, 0, none⟩) 2 2)).run Tryd.prog (W.alloc (.cells #[.int .u8 81, .int .u8 64] 5)) = .ok (.string ⟨#[UInt8.ofNat 81, UInt8.ofNat 64]⟩) (W.alloc (.cells #[.int .u8 81, .int .u8 64] 5)) := fun W => two_bytes 81 64 W (by decide) (by decide)
  generalize (⟨#[UInt8.ofNat 81, UInt8.ofNat 64]⟩ : ByteArray) = BS at *
  clear hPC hP hc
  by_cases h0 : k = 0
  · subst h0
    obtain rfl : S = ⟨#[]⟩ := N.textEnd_one hT (N.text_same (.inl rfl))
    clear hT hk hs
    generalize N.tx s = TX at *
    go_enter Tryd.func7, Tryd.ntmps7
    go_wp2_with (first
      | (go_at_call 11; (with_reducible refine (awake11_any _).mono ?_); rintro r w1 ⟨rfl, hb⟩; have H1 := Lib.hid (And.intro (H0.out.1.below hb) (below_next H0.out.2 hb)); have c0 := H1.out.1.cell (i := 0) (by decide); have c78 := H1.out.1.cell (i := 78) (by decide); rw [show pk 0 = .u8 from rfl] at c0; rw [show pk 78 = .u8 from rfl] at c78; clear hb)
      | (go_at_call 13; (with_reducible refine (HSq.out _).mono ?_); rintro r w2 ⟨rfl, hb⟩; have H2 := Lib.hid (And.intro (H1.out.1.below hb) (below_next H1.out.2 hb)); clear hb)
      | ((with_reducible refine wp_load_box_g rfl _ rfl ?_); refine ⟨_, c, rfl, H3.out.1, ?_⟩)
      | ((with_reducible refine wp_load_box_g rfl _ rfl ?_); refine ⟨_, c, rfl, H2.out.1, ?_⟩)
      | (go_at_call 9; (with_reducible refine (HT.out _).mono ?_); rintro r w3 ⟨rfl, hb⟩; have H3 := Lib.hid (And.intro (H2.out.1.below hb) (below_next H2.out.2 hb)); clear hb)
      | (go_at_call 12; (with_reducible refine (HP.out _).mono ?_); rintro r w4 ⟨rfl, hb⟩; have H4 := Lib.hid (below_next (H3.out.2.alloc H3.out.2.size _) hb); clear hb)
      | ((with_reducible refine wp_store_row' rfl 33 _ _ rfl ?_); refine ⟨w4.heap.size, 33, movC (s : Int) (s : Int) 0 5 false, rfl, rfl, ⟨_, heap_alloc_new _ _, (by kernel_rfl)⟩, Tryd.info_mvB _ _ _ _ _, Tryd.one_mvB _ _ _ _ _, ?_⟩; intro W5 hP hq; have H5 := Lib.hid (And.intro hq (hP.below (H4.out.alloc H4.out.size _) H4.out.size)); have m0 := H5.out.1.cell 0; have m1 := H5.out.1.cell 1; have m2 := H5.out.1.cell 2; have m3 := H5.out.1.cell 3; have m4 := H5.out.1.cell 4; rw [show (movC (s : Int) (s : Int) 0 5 false)[0]? = some (.int .i8 (s : Int)) from rfl] at m0; rw [show (movC (s : Int) (s : Int) 0 5 false)[1]? = some (.int .i8 (s : Int)) from rfl] at m1; rw [show (movC (s : Int) (s : Int) 0 5 false)[2]? = some (.int .u8 0) from rfl] at m2; rw [show (movC (s : Int) (s : Int) 0 5 false)[3]? = some (.int .u8 5) from rfl] at m3; rw [show (movC (s : Int) (s : Int) 0 5 false)[4]? = some (.bool false) from rfl] at m4; clear hP hq))
    go_ret
    exact ⟨by first | rfl | simp, H5.out.2⟩
  by_cases h1 : k = 1
  · subst h1
    obtain rfl : S = N.drop 1 s := N.textEnd_one hT (N.text_drop hk (by omega) (by omega) (by decide) rfl rfl rfl)
    have hcat : ((⟨#[46, 80, 78, 66, 82, 81]⟩ : ByteArray).extract 1 2 ++ ⟨#[64]⟩) ++ N.tx s = N.drop 1 s := rfl
    have z1 : ((⟨#[46, 80, 78, 66, 82, 81]⟩ : ByteArray).extract 1 2).size + (⟨#[64]⟩ : ByteArray).size ≤ 9223372036854775807 := Nat.le_of_ble_eq_true rfl
    have z2 : ((⟨#[46, 80, 78, 66, 82, 81]⟩ : ByteArray).extract 1 2 ++ ⟨#[64]⟩).size + (N.tx s).size ≤ 9223372036854775807 := Nat.le_of_ble_eq_true rfl
    have hne : (N.drop 1 s).toList.isEmpty = false := by rw [← Bool.not_eq_true, N.empty_list]; exact fun e => absurd (N.list_of (b := []) e) (by simp)
    clear hT hk hs
    generalize N.drop 1 s = D at *
    generalize N.tx s = TX at *
    go_enter Tryd.func7, Tryd.ntmps7
    go_wp2_with (first
      | (go_at_call 11; (with_reducible refine (awake11_any _).mono ?_); rintro r w1 ⟨rfl, hb⟩; have H1 := Lib.hid (And.intro (H0.out.1.below hb) (below_next H0.out.2 hb)); have c0 := H1.out.1.cell (i := 0) (by decide); have c78 := H1.out.1.cell (i := 78) (by decide); rw [show pk 0 = .u8 from rfl] at c0; rw [show pk 78 = .u8 from rfl] at c78; clear hb)
      | (go_at_call 13; (with_reducible refine (HSq.out _).mono ?_); rintro r w2 ⟨rfl, hb⟩; have H2 := Lib.hid (And.intro (H1.out.1.below hb) (below_next H1.out.2 hb)); clear hb)
      | ((with_reducible refine wp_load_box_g rfl _ rfl ?_); refine ⟨_, c, rfl, H3.out.1, ?_⟩)
      | ((with_reducible refine wp_load_box_g rfl _ rfl ?_); refine ⟨_, c, rfl, H2.out.1, ?_⟩)
      | (go_at_call 9; (with_reducible refine (HT.out _).mono ?_); rintro r w3 ⟨rfl, hb⟩; have H3 := Lib.hid (And.intro (H2.out.1.below hb) (below_next H2.out.2 hb)); clear hb)
      | (go_at_call 12; (with_reducible refine (HP.out _).mono ?_); rintro r w4 ⟨rfl, hb⟩; have H4 := Lib.hid (below_next (H3.out.2.alloc H3.out.2.size _) hb); clear hb)
      | ((with_reducible refine wp_store_row' rfl 33 _ _ rfl ?_); refine ⟨w4.heap.size, 33, movC (s : Int) (s : Int) 0 5 false, rfl, rfl, ⟨_, heap_alloc_new _ _, (by kernel_rfl)⟩, Tryd.info_mvB _ _ _ _ _, Tryd.one_mvB _ _ _ _ _, ?_⟩; intro W5 hP hq; have H5 := Lib.hid (And.intro hq (hP.below (H4.out.alloc H4.out.size _) H4.out.size)); have m0 := H5.out.1.cell 0; have m1 := H5.out.1.cell 1; have m2 := H5.out.1.cell 2; have m3 := H5.out.1.cell 3; have m4 := H5.out.1.cell 4; rw [show (movC (s : Int) (s : Int) 0 5 false)[0]? = some (.int .i8 (s : Int)) from rfl] at m0; rw [show (movC (s : Int) (s : Int) 0 5 false)[1]? = some (.int .i8 (s : Int)) from rfl] at m1; rw [show (movC (s : Int) (s : Int) 0 5 false)[2]? = some (.int .u8 0) from rfl] at m2; rw [show (movC (s : Int) (s : Int) 0 5 false)[3]? = some (.int .u8 5) from rfl] at m3; rw [show (movC (s : Int) (s : Int) 0 5 false)[4]? = some (.bool false) from rfl] at m4; clear hP hq))
    go_ret
    exact ⟨by first | rfl | simp, H5.out.2⟩
  by_cases h2 : k = 2
  · subst h2
    obtain rfl : S = N.drop 2 s := N.textEnd_one hT (N.text_drop hk (by omega) (by omega) (by decide) rfl rfl rfl)
    have hcat : ((⟨#[46, 80, 78, 66, 82, 81]⟩ : ByteArray).extract 2 3 ++ ⟨#[64]⟩) ++ N.tx s = N.drop 2 s := rfl
    have z1 : ((⟨#[46, 80, 78, 66, 82, 81]⟩ : ByteArray).extract 2 3).size + (⟨#[64]⟩ : ByteArray).size ≤ 9223372036854775807 := Nat.le_of_ble_eq_true rfl
    have z2 : ((⟨#[46, 80, 78, 66, 82, 81]⟩ : ByteArray).extract 2 3 ++ ⟨#[64]⟩).size + (N.tx s).size ≤ 9223372036854775807 := Nat.le_of_ble_eq_true rfl
    have hne : (N.drop 2 s).toList.isEmpty = false := by rw [← Bool.not_eq_true, N.empty_list]; exact fun e => absurd (N.list_of (b := []) e) (by simp)
    clear hT hk hs
    generalize N.drop 2 s = D at *
    generalize N.tx s = TX at *
    go_enter Tryd.func7, Tryd.ntmps7
    go_wp2_with (first
      | (go_at_call 11; (with_reducible refine (awake11_any _).mono ?_); rintro r w1 ⟨rfl, hb⟩; have H1 := Lib.hid (And.intro (H0.out.1.below hb) (below_next H0.out.2 hb)); have c0 := H1.out.1.cell (i := 0) (by decide); have c78 := H1.out.1.cell (i := 78) (by decide); rw [show pk 0 = .u8 from rfl] at c0; rw [show pk 78 = .u8 from rfl] at c78; clear hb)
      | (go_at_call 13; (with_reducible refine (HSq.out _).mono ?_); rintro r w2 ⟨rfl, hb⟩; have H2 := Lib.hid (And.intro (H1.out.1.below hb) (below_next H1.out.2 hb)); clear hb)
      | ((with_reducible refine wp_load_box_g rfl _ rfl ?_); refine ⟨_, c, rfl, H3.out.1, ?_⟩)
      | ((with_reducible refine wp_load_box_g rfl _ rfl ?_); refine ⟨_, c, rfl, H2.out.1, ?_⟩)
      | (go_at_call 9; (with_reducible refine (HT.out _).mono ?_); rintro r w3 ⟨rfl, hb⟩; have H3 := Lib.hid (And.intro (H2.out.1.below hb) (below_next H2.out.2 hb)); clear hb)
      | (go_at_call 12; (with_reducible refine (HP.out _).mono ?_); rintro r w4 ⟨rfl, hb⟩; have H4 := Lib.hid (below_next (H3.out.2.alloc H3.out.2.size _) hb); clear hb)
      | ((with_reducible refine wp_store_row' rfl 33 _ _ rfl ?_); refine ⟨w4.heap.size, 33, movC (s : Int) (s : Int) 0 5 false, rfl, rfl, ⟨_, heap_alloc_new _ _, (by kernel_rfl)⟩, Tryd.info_mvB _ _ _ _ _, Tryd.one_mvB _ _ _ _ _, ?_⟩; intro W5 hP hq; have H5 := Lib.hid (And.intro hq (hP.below (H4.out.alloc H4.out.size _) H4.out.size)); have m0 := H5.out.1.cell 0; have m1 := H5.out.1.cell 1; have m2 := H5.out.1.cell 2; have m3 := H5.out.1.cell 3; have m4 := H5.out.1.cell 4; rw [show (movC (s : Int) (s : Int) 0 5 false)[0]? = some (.int .i8 (s : Int)) from rfl] at m0; rw [show (movC (s : Int) (s : Int) 0 5 false)[1]? = some (.int .i8 (s : Int)) from rfl] at m1; rw [show (movC (s : Int) (s : Int) 0 5 false)[2]? = some (.int .u8 0) from rfl] at m2; rw [show (movC (s : Int) (s : Int) 0 5 false)[3]? = some (.int .u8 5) from rfl] at m3; rw [show (movC (s : Int) (s : Int) 0 5 false)[4]? = some (.bool false) from rfl] at m4; clear hP hq))
    go_ret
    exact ⟨by first | rfl | simp, H5.out.2⟩
  by_cases h3 : k = 3
  · subst h3
    obtain rfl : S = N.drop 3 s := N.textEnd_one hT (N.text_drop hk (by omega) (by omega) (by decide) rfl rfl rfl)
    have hcat : ((⟨#[46, 80, 78, 66, 82, 81]⟩ : ByteArray).extract 3 4 ++ ⟨#[64]⟩) ++ N.tx s = N.drop 3 s := rfl
    have z1 : ((⟨#[46, 80, 78, 66, 82, 81]⟩ : ByteArray).extract 3 4).size + (⟨#[64]⟩ : ByteArray).size ≤ 9223372036854775807 := Nat.le_of_ble_eq_true rfl
    have z2 : ((⟨#[46, 80, 78, 66, 82, 81]⟩ : ByteArray).extract 3 4 ++ ⟨#[64]⟩).size + (N.tx s).size ≤ 9223372036854775807 := Nat.le_of_ble_eq_true rfl
    have hne : (N.drop 3 s).toList.isEmpty = false := by rw [← Bool.not_eq_true, N.empty_list]; exact fun e => absurd (N.list_of (b := []) e) (by simp)
    clear hT hk hs
    generalize N.drop 3 s = D at *
    generalize N.tx s = TX at *
    go_enter Tryd.func7, Tryd.ntmps7
    go_wp2_with (first
      | (go_at_call 11; (with_reducible refine (awake11_any _).mono ?_); rintro r w1 ⟨rfl, hb⟩; have H1 := Lib.hid (And.intro (H0.out.1.below hb) (below_next H0.out.2 hb)); have c0 := H1.out.1.cell (i := 0) (by decide); have c78 := H1.out.1.cell (i := 78) (by decide); rw [show pk 0 = .u8 from rfl] at c0; rw [show pk 78 = .u8 from rfl] at c78; clear hb)
      | (go_at_call 13; (with_reducible refine (HSq.out _).mono ?_); rintro r w2 ⟨rfl, hb⟩; have H2 := Lib.hid (And.intro (H1.out.1.below hb) (below_next H1.out.2 hb)); clear hb)
      | ((with_reducible refine wp_load_box_g rfl _ rfl ?_); refine ⟨_, c, rfl, H3.out.1, ?_⟩)
      | ((with_reducible refine wp_load_box_g rfl _ rfl ?_); refine ⟨_, c, rfl, H2.out.1, ?_⟩)
      | (go_at_call 9; (with_reducible refine (HT.out _).mono ?_); rintro r w3 ⟨rfl, hb⟩; have H3 := Lib.hid (And.intro (H2.out.1.below hb) (below_next H2.out.2 hb)); clear hb)
      | (go_at_call 12; (with_reducible refine (HP.out _).mono ?_); rintro r w4 ⟨rfl, hb⟩; have H4 := Lib.hid (below_next (H3.out.2.alloc H3.out.2.size _) hb); clear hb)
      | ((with_reducible refine wp_store_row' rfl 33 _ _ rfl ?_); refine ⟨w4.heap.size, 33, movC (s : Int) (s : Int) 0 5 false, rfl, rfl, ⟨_, heap_alloc_new _ _, (by kernel_rfl)⟩, Tryd.info_mvB _ _ _ _ _, Tryd.one_mvB _ _ _ _ _, ?_⟩; intro W5 hP hq; have H5 := Lib.hid (And.intro hq (hP.below (H4.out.alloc H4.out.size _) H4.out.size)); have m0 := H5.out.1.cell 0; have m1 := H5.out.1.cell 1; have m2 := H5.out.1.cell 2; have m3 := H5.out.1.cell 3; have m4 := H5.out.1.cell 4; rw [show (movC (s : Int) (s : Int) 0 5 false)[0]? = some (.int .i8 (s : Int)) from rfl] at m0; rw [show (movC (s : Int) (s : Int) 0 5 false)[1]? = some (.int .i8 (s : Int)) from rfl] at m1; rw [show (movC (s : Int) (s : Int) 0 5 false)[2]? = some (.int .u8 0) from rfl] at m2; rw [show (movC (s : Int) (s : Int) 0 5 false)[3]? = some (.int .u8 5) from rfl] at m3; rw [show (movC (s : Int) (s : Int) 0 5 false)[4]? = some (.bool false) from rfl] at m4; clear hP hq))
    go_ret
    exact ⟨by first | rfl | simp, H5.out.2⟩
  by_cases h4 : k = 4
  · subst h4
    obtain rfl : S = N.drop 4 s := N.textEnd_one hT (N.text_drop hk (by omega) (by omega) (by decide) rfl rfl rfl)
    have hcat : ((⟨#[46, 80, 78, 66, 82, 81]⟩ : ByteArray).extract 4 5 ++ ⟨#[64]⟩) ++ N.tx s = N.drop 4 s := rfl
    have z1 : ((⟨#[46, 80, 78, 66, 82, 81]⟩ : ByteArray).extract 4 5).size + (⟨#[64]⟩ : ByteArray).size ≤ 9223372036854775807 := Nat.le_of_ble_eq_true rfl
    have z2 : ((⟨#[46, 80, 78, 66, 82, 81]⟩ : ByteArray).extract 4 5 ++ ⟨#[64]⟩).size + (N.tx s).size ≤ 9223372036854775807 := Nat.le_of_ble_eq_true rfl
    have hne : (N.drop 4 s).toList.isEmpty = false := by rw [← Bool.not_eq_true, N.empty_list]; exact fun e => absurd (N.list_of (b := []) e) (by simp)
    clear hT hk hs
    generalize N.drop 4 s = D at *
    generalize N.tx s = TX at *
    go_enter Tryd.func7, Tryd.ntmps7
    go_wp2_with (first
      | (go_at_call 11; (with_reducible refine (awake11_any _).mono ?_); rintro r w1 ⟨rfl, hb⟩; have H1 := Lib.hid (And.intro (H0.out.1.below hb) (below_next H0.out.2 hb)); have c0 := H1.out.1.cell (i := 0) (by decide); have c78 := H1.out.1.cell (i := 78) (by decide); rw [show pk 0 = .u8 from rfl] at c0; rw [show pk 78 = .u8 from rfl] at c78; clear hb)
      | (go_at_call 13; (with_reducible refine (HSq.out _).mono ?_); rintro r w2 ⟨rfl, hb⟩; have H2 := Lib.hid (And.intro (H1.out.1.below hb) (below_next H1.out.2 hb)); clear hb)
      | ((with_reducible refine wp_load_box_g rfl _ rfl ?_); refine ⟨_, c, rfl, H3.out.1, ?_⟩)
      | ((with_reducible refine wp_load_box_g rfl _ rfl ?_); refine ⟨_, c, rfl, H2.out.1, ?_⟩)
      | (go_at_call 9; (with_reducible refine (HT.out _).mono ?_); rintro r w3 ⟨rfl, hb⟩; have H3 := Lib.hid (And.intro (H2.out.1.below hb) (below_next H2.out.2 hb)); clear hb)
      | (go_at_call 12; (with_reducible refine (HP.out _).mono ?_); rintro r w4 ⟨rfl, hb⟩; have H4 := Lib.hid (below_next (H3.out.2.alloc H3.out.2.size _) hb); clear hb)
      | ((with_reducible refine wp_store_row' rfl 33 _ _ rfl ?_); refine ⟨w4.heap.size, 33, movC (s : Int) (s : Int) 0 5 false, rfl, rfl, ⟨_, heap_alloc_new _ _, (by kernel_rfl)⟩, Tryd.info_mvB _ _ _ _ _, Tryd.one_mvB _ _ _ _ _, ?_⟩; intro W5 hP hq; have H5 := Lib.hid (And.intro hq (hP.below (H4.out.alloc H4.out.size _) H4.out.size)); have m0 := H5.out.1.cell 0; have m1 := H5.out.1.cell 1; have m2 := H5.out.1.cell 2; have m3 := H5.out.1.cell 3; have m4 := H5.out.1.cell 4; rw [show (movC (s : Int) (s : Int) 0 5 false)[0]? = some (.int .i8 (s : Int)) from rfl] at m0; rw [show (movC (s : Int) (s : Int) 0 5 false)[1]? = some (.int .i8 (s : Int)) from rfl] at m1; rw [show (movC (s : Int) (s : Int) 0 5 false)[2]? = some (.int .u8 0) from rfl] at m2; rw [show (movC (s : Int) (s : Int) 0 5 false)[3]? = some (.int .u8 5) from rfl] at m3; rw [show (movC (s : Int) (s : Int) 0 5 false)[4]? = some (.bool false) from rfl] at m4; clear hP hq))
    go_ret
    exact ⟨by first | rfl | simp, H5.out.2⟩
  by_cases h5 : k = 5
  · subst h5
    obtain rfl : S = N.drop 5 s := N.textEnd_one hT (N.text_drop hk (by omega) (by omega) (by decide) rfl rfl rfl)
    have hcat : ((⟨#[46, 80, 78, 66, 82, 81]⟩ : ByteArray).extract 5 6 ++ ⟨#[64]⟩) ++ N.tx s = N.drop 5 s := rfl
    have z1 : ((⟨#[46, 80, 78, 66, 82, 81]⟩ : ByteArray).extract 5 6).size + (⟨#[64]⟩ : ByteArray).size ≤ 9223372036854775807 := Nat.le_of_ble_eq_true rfl
    have z2 : ((⟨#[46, 80, 78, 66, 82, 81]⟩ : ByteArray).extract 5 6 ++ ⟨#[64]⟩).size + (N.tx s).size ≤ 9223372036854775807 := Nat.le_of_ble_eq_true rfl
    have hne : (N.drop 5 s).toList.isEmpty = false := by rw [← Bool.not_eq_true, N.empty_list]; exact fun e => absurd (N.list_of (b := []) e) (by simp)
    clear hT hk hs
    generalize N.drop 5 s = D at *
    generalize N.tx s = TX at *
    go_enter Tryd.func7, Tryd.ntmps7
    go_wp2_with (first
      | (go_at_call 11; (with_reducible refine (awake11_any _).mono ?_); rintro r w1 ⟨rfl, hb⟩; have H1 := Lib.hid (And.intro (H0.out.1.below hb) (below_next H0.out.2 hb)); have c0 := H1.out.1.cell (i := 0) (by decide); have c78 := H1.out.1.cell (i := 78) (by decide); rw [show pk 0 = .u8 from rfl] at c0; rw [show pk 78 = .u8 from rfl] at c78; clear hb)
      | (go_at_call 13; (with_reducible refine (HSq.out _).mono ?_); rintro r w2 ⟨rfl, hb⟩; have H2 := Lib.hid (And.intro (H1.out.1.below hb) (below_next H1.out.2 hb)); clear hb)
      | ((with_reducible refine wp_load_box_g rfl _ rfl ?_); refine ⟨_, c, rfl, H3.out.1, ?_⟩)
      | ((with_reducible refine wp_load_box_g rfl _ rfl ?_); refine ⟨_, c, rfl, H2.out.1, ?_⟩)
      | (go_at_call 9; (with_reducible refine (HT.out _).mono ?_); rintro r w3 ⟨rfl, hb⟩; have H3 := Lib.hid (And.intro (H2.out.1.below hb) (below_next H2.out.2 hb)); clear hb)
      | (go_at_call 12; (with_reducible refine (HP.out _).mono ?_); rintro r w4 ⟨rfl, hb⟩; have H4 := Lib.hid (below_next (H3.out.2.alloc H3.out.2.size _) hb); clear hb)
      | ((with_reducible refine wp_store_row' rfl 33 _ _ rfl ?_); refine ⟨w4.heap.size, 33, movC (s : Int) (s : Int) 0 5 false, rfl, rfl, ⟨_, heap_alloc_new _ _, (by kernel_rfl)⟩, Tryd.info_mvB _ _ _ _ _, Tryd.one_mvB _ _ _ _ _, ?_⟩; intro W5 hP hq; have H5 := Lib.hid (And.intro hq (hP.below (H4.out.alloc H4.out.size _) H4.out.size)); have m0 := H5.out.1.cell 0; have m1 := H5.out.1.cell 1; have m2 := H5.out.1.cell 2; have m3 := H5.out.1.cell 3; have m4 := H5.out.1.cell 4; rw [show (movC (s : Int) (s : Int) 0 5 false)[0]? = some (.int .i8 (s : Int)) from rfl] at m0; rw [show (movC (s : Int) (s : Int) 0 5 false)[1]? = some (.int .i8 (s : Int)) from rfl] at m1; rw [show (movC (s : Int) (s : Int) 0 5 false)[2]? = some (.int .u8 0) from rfl] at m2; rw [show (movC (s : Int) (s : Int) 0 5 false)[3]? = some (.int .u8 5) from rfl] at m3; rw [show (movC (s : Int) (s : Int) 0 5 false)[4]? = some (.bool false) from rfl] at m4; clear hP hq))
    go_ret
    exact ⟨by first | rfl | simp, H5.out.2⟩
  have k5 : decide (5 < k) = true := by simp; omega
  have k00 : (k == 0) = false := by simpa using h0
  obtain rfl : S = ⟨#[]⟩ := N.textEnd_one hT (N.text_noDrop (by omega) (fun h => by omega))
  clear hT hk h0 h1 h2 h3 h4 h5 hk0 hs
  generalize N.tx s = TX at *
  go_enter Tryd.func7, Tryd.ntmps7
  go_wp2_with (first
    | (go_at_call 11; (with_reducible refine (awake11_any _).mono ?_); rintro r w1 ⟨rfl, hb⟩; have H1 := Lib.hid (And.intro (H0.out.1.below hb) (below_next H0.out.2 hb)); have c0 := H1.out.1.cell (i := 0) (by decide); have c78 := H1.out.1.cell (i := 78) (by decide); rw [show pk 0 = .u8 from rfl] at c0; rw [show pk 78 = .u8 from rfl] at c78; clear hb)
    | (go_at_call 13; (with_reducible refine (HSq.out _).mono ?_); rintro r w2 ⟨rfl, hb⟩; have H2 := Lib.hid (And.intro (H1.out.1.below hb) (below_next H1.out.2 hb)); clear hb)
    | ((with_reducible refine wp_load_box_g rfl _ rfl ?_); refine ⟨_, c, rfl, H3.out.1, ?_⟩)
    | ((with_reducible refine wp_load_box_g rfl _ rfl ?_); refine ⟨_, c, rfl, H2.out.1, ?_⟩)
    | (go_at_call 9; (with_reducible refine (HT.out _).mono ?_); rintro r w3 ⟨rfl, hb⟩; have H3 := Lib.hid (And.intro (H2.out.1.below hb) (below_next H2.out.2 hb)); clear hb)
    | (go_at_call 12; (with_reducible refine (HP.out _).mono ?_); rintro r w4 ⟨rfl, hb⟩; have H4 := Lib.hid (below_next (H3.out.2.alloc H3.out.2.size _) hb); clear hb)
    | ((with_reducible refine wp_store_row' rfl 33 _ _ rfl ?_); refine ⟨w4.heap.size, 33, movC (s : Int) (s : Int) 0 5 false, rfl, rfl, ⟨_, heap_alloc_new _ _, (by kernel_rfl)⟩, Tryd.info_mvB _ _ _ _ _, Tryd.one_mvB _ _ _ _ _, ?_⟩; intro W5 hP hq; have H5 := Lib.hid (And.intro hq (hP.below (H4.out.alloc H4.out.size _) H4.out.size)); have m0 := H5.out.1.cell 0; have m1 := H5.out.1.cell 1; have m2 := H5.out.1.cell 2; have m3 := H5.out.1.cell 3; have m4 := H5.out.1.cell 4; rw [show (movC (s : Int) (s : Int) 0 5 false)[0]? = some (.int .i8 (s : Int)) from rfl] at m0; rw [show (movC (s : Int) (s : Int) 0 5 false)[1]? = some (.int .i8 (s : Int)) from rfl] at m1; rw [show (movC (s : Int) (s : Int) 0 5 false)[2]? = some (.int .u8 0) from rfl] at m2; rw [show (movC (s : Int) (s : Int) 0 5 false)[3]? = some (.int .u8 5) from rfl] at m3; rw [show (movC (s : Int) (s : Int) 0 5 false)[4]? = some (.bool false) from rfl] at m4; clear hP hq))
  go_ret
  exact ⟨by first | rfl | simp, H5.out.2⟩

set_option maxRecDepth 100000 in
set_option maxHeartbeats 8000000 in
theorem movesDrops_0 (c : Nat → Int) (s : Nat) (k : Int) (b : Nat) (w : World) (hc : PosOk c) (hk : N.known c) (hs : s < 64) (hk0 : 0 ≤ k ∧ k ≤ 255) (hb : b < 256) (n80 : b ≠ 80) (n78 : b ≠ 78) (n66 : b ≠ 66) (n82 : b ≠ 82) (n81 : b ≠ 81) :
    Calls Tryd.prog 7 #[.agg (posC c), .int .i8 (s : Int), .int .u8 k, .int .u8 (b : Int)] w fun e w' => e = .returned (.bool true) ∧ Below w.heap.size w w' := by
  have H0 := Lib.hid (And.intro (PosAt.new w c) ((Below.refl _ w).alloc (Nat.le_refl _) (.cells (posC c) 31)))
  have HSq : Hid (∀ W, Calls Tryd.prog 13 #[.int .i64 (s : Int)] W fun e w' => e = .returned (.string (N.tx s)) ∧ Below W.heap.size W w') := Lib.hid (fun W => sqtext_any s W hs)
  have hk0' := hk.1
  have hk1' := hk.2
  have d0 : decide (9 ≤ c 0) = false := by simp; omega
  have d1 : decide (1 < c 78) = false := by simp; omega
  have d2 : decide ((s : Int) < 0) = false := by simp
  have d3 : decide (63 < (s : Int)) = false := by simp; omega
  have ws := i8_i64 hs
  clear hk0' hk1'
  obtain ⟨S, hT, hTC⟩ := mvText_fix c (s : Int) (s : Int) 0 k false hc (by unfold MovOk; omega)
  have HT0 := Lib.hid hTC
  have HT : Hid (∀ W, Calls Tryd.prog 9 #[.agg (posC c), .agg #[.int .i8 (s : Int), .int .i8 (s : Int), .int .u8 0, .int .u8 k, .bool false]] W fun e w' => e = .returned (.string S) ∧ Below W.heap.size W w') := Lib.hid HT0.out
  clear hTC HT0
  obtain ⟨f2, g2, x2, y2, z2, e2, hP, hPC⟩ := mvParse_fix c (N.by2 b s) hc (N.by2_size _ _)
  obtain ⟨rfl, rfl, rfl, rfl, rfl, rfl⟩ := N.parse_bad hk hP (N.by2_no hb n80 n78 n66 n82 n81)
  have q80 : ((b : Int) == 80) = false := by simp; omega
  have q78 : ((b : Int) == 78) = false := by simp; omega
  have q66 : ((b : Int) == 66) = false := by simp; omega
  have q82 : ((b : Int) == 82) = false := by simp; omega
  have q81 : ((b : Int) == 81) = false := by simp; omega
  clear n80 n78 n66 n82 n81
  have HP : Hid (∀ W, Calls Tryd.prog 12 #[.agg (posC c), .string (⟨#[UInt8.ofNat b, UInt8.ofNat 64]⟩ ++ N.tx s)] W fun e w' => e = .returned (.tuple #[.agg (movC 0 0 0 0 false), .int .i64 5]) ∧ Below W.heap.size W w') := Lib.hid hPC
  have z3 : (⟨#[UInt8.ofNat b, UInt8.ofNat 64]⟩ : ByteArray).size + (N.tx s).size ≤ 9223372036854775807 := Nat.le_of_ble_eq_true rfl
  have hcv : ∀ W : World, (convert 44 9 (.slice (some ⟨W.heap.size, 0, none⟩) 2 2)).run Tryd.prog (W.alloc (.cells #[.int .u8 (b : Int), .int .u8 64] 5)) = .ok (.string ⟨#[UInt8.ofNat b, UInt8.ofNat 64]⟩) (W.alloc (.cells #[.int .u8 (b : Int), .int .u8 64] 5)) := fun W => two_bytes b 64 W hb (by decide)
  generalize (⟨#[UInt8.ofNat b, UInt8.ofNat 64]⟩ : ByteArray) = BS at *
  clear hPC hP hc hb
  by_cases h0 : k = 0
  · subst h0
    obtain rfl : S = ⟨#[]⟩ := N.textEnd_one hT (N.text_same (.inl rfl))
    clear hT hk hs
    generalize N.tx s = TX at *
    go_enter Tryd.func7, Tryd.ntmps7
    go_wp2_with (first
      | (go_at_call 11; (with_reducible refine (awake11_any _).mono ?_); rintro r w1 ⟨rfl, hb⟩; have H1 := Lib.hid (And.intro (H0.out.1.below hb) (below_next H0.out.2 hb)); have c0 := H1.out.1.cell (i := 0) (by decide); have c78 := H1.out.1.cell (i := 78) (by decide); rw [show pk 0 = .u8 from rfl] at c0; rw [show pk 78 = .u8 from rfl] at c78; clear hb)
      | (go_at_call 13; (with_reducible refine (HSq.out _).mono ?_); rintro r w2 ⟨rfl, hb⟩; have H2 := Lib.hid (And.intro (H1.out.1.below hb) (below_next H1.out.2 hb)); clear hb)
      | ((with_reducible refine wp_load_box_g rfl _ rfl ?_); refine ⟨_, c, rfl, H3.out.1, ?_⟩)
      | ((with_reducible refine wp_load_box_g rfl _ rfl ?_); refine ⟨_, c, rfl, H2.out.1, ?_⟩)
      | (go_at_call 9; (with_reducible refine (HT.out _).mono ?_); rintro r w3 ⟨rfl, hb⟩; have H3 := Lib.hid (And.intro (H2.out.1.below hb) (below_next H2.out.2 hb)); clear hb)
      | (go_at_call 12; (with_reducible refine (HP.out _).mono ?_); rintro r w4 ⟨rfl, hb⟩; have H4 := Lib.hid (below_next (H3.out.2.alloc H3.out.2.size _) hb); clear hb)
      | ((with_reducible refine wp_store_row' rfl 33 _ _ rfl ?_); refine ⟨w4.heap.size, 33, movC 0 0 0 0 false, rfl, rfl, ⟨_, heap_alloc_new _ _, (by kernel_rfl)⟩, Tryd.info_mvB _ _ _ _ _, Tryd.one_mvB _ _ _ _ _, ?_⟩; intro W5 hP hq; have H5 := Lib.hid (And.intro hq (hP.below (H4.out.alloc H4.out.size _) H4.out.size)); have m0 := H5.out.1.cell 0; have m1 := H5.out.1.cell 1; have m2 := H5.out.1.cell 2; have m3 := H5.out.1.cell 3; have m4 := H5.out.1.cell 4; rw [show (movC 0 0 0 0 false)[0]? = some (.int .i8 0) from rfl] at m0; rw [show (movC 0 0 0 0 false)[1]? = some (.int .i8 0) from rfl] at m1; rw [show (movC 0 0 0 0 false)[2]? = some (.int .u8 0) from rfl] at m2; rw [show (movC 0 0 0 0 false)[3]? = some (.int .u8 0) from rfl] at m3; rw [show (movC 0 0 0 0 false)[4]? = some (.bool false) from rfl] at m4; clear hP hq))
    go_ret
    exact ⟨by first | rfl | simp, H5.out.2⟩
  by_cases h1 : k = 1
  · subst h1
    obtain rfl : S = N.drop 1 s := N.textEnd_one hT (N.text_drop hk (by omega) (by omega) (by decide) rfl rfl rfl)
    have hcat : ((⟨#[46, 80, 78, 66, 82, 81]⟩ : ByteArray).extract 1 2 ++ ⟨#[64]⟩) ++ N.tx s = N.drop 1 s := rfl
    have z1 : ((⟨#[46, 80, 78, 66, 82, 81]⟩ : ByteArray).extract 1 2).size + (⟨#[64]⟩ : ByteArray).size ≤ 9223372036854775807 := Nat.le_of_ble_eq_true rfl
    have z2 : ((⟨#[46, 80, 78, 66, 82, 81]⟩ : ByteArray).extract 1 2 ++ ⟨#[64]⟩).size + (N.tx s).size ≤ 9223372036854775807 := Nat.le_of_ble_eq_true rfl
    have hne : (N.drop 1 s).toList.isEmpty = false := by rw [← Bool.not_eq_true, N.empty_list]; exact fun e => absurd (N.list_of (b := []) e) (by simp)
    clear hT hk hs
    generalize N.drop 1 s = D at *
    generalize N.tx s = TX at *
    go_enter Tryd.func7, Tryd.ntmps7
    go_wp2_with (first
      | (go_at_call 11; (with_reducible refine (awake11_any _).mono ?_); rintro r w1 ⟨rfl, hb⟩; have H1 := Lib.hid (And.intro (H0.out.1.below hb) (below_next H0.out.2 hb)); have c0 := H1.out.1.cell (i := 0) (by decide); have c78 := H1.out.1.cell (i := 78) (by decide); rw [show pk 0 = .u8 from rfl] at c0; rw [show pk 78 = .u8 from rfl] at c78; clear hb)
      | (go_at_call 13; (with_reducible refine (HSq.out _).mono ?_); rintro r w2 ⟨rfl, hb⟩; have H2 := Lib.hid (And.intro (H1.out.1.below hb) (below_next H1.out.2 hb)); clear hb)
      | ((with_reducible refine wp_load_box_g rfl _ rfl ?_); refine ⟨_, c, rfl, H3.out.1, ?_⟩)
      | ((with_reducible refine wp_load_box_g rfl _ rfl ?_); refine ⟨_, c, rfl, H2.out.1, ?_⟩)
      | (go_at_call 9; (with_reducible refine (HT.out _).mono ?_); rintro r w3 ⟨rfl, hb⟩; have H3 := Lib.hid (And.intro (H2.out.1.below hb) (below_next H2.out.2 hb)); clear hb)
      | (go_at_call 12; (with_reducible refine (HP.out _).mono ?_); rintro r w4 ⟨rfl, hb⟩; have H4 := Lib.hid (below_next (H3.out.2.alloc H3.out.2.size _) hb); clear hb)
      | ((with_reducible refine wp_store_row' rfl 33 _ _ rfl ?_); refine ⟨w4.heap.size, 33, movC 0 0 0 0 false, rfl, rfl, ⟨_, heap_alloc_new _ _, (by kernel_rfl)⟩, Tryd.info_mvB _ _ _ _ _, Tryd.one_mvB _ _ _ _ _, ?_⟩; intro W5 hP hq; have H5 := Lib.hid (And.intro hq (hP.below (H4.out.alloc H4.out.size _) H4.out.size)); have m0 := H5.out.1.cell 0; have m1 := H5.out.1.cell 1; have m2 := H5.out.1.cell 2; have m3 := H5.out.1.cell 3; have m4 := H5.out.1.cell 4; rw [show (movC 0 0 0 0 false)[0]? = some (.int .i8 0) from rfl] at m0; rw [show (movC 0 0 0 0 false)[1]? = some (.int .i8 0) from rfl] at m1; rw [show (movC 0 0 0 0 false)[2]? = some (.int .u8 0) from rfl] at m2; rw [show (movC 0 0 0 0 false)[3]? = some (.int .u8 0) from rfl] at m3; rw [show (movC 0 0 0 0 false)[4]? = some (.bool false) from rfl] at m4; clear hP hq))
    go_ret
    exact ⟨by first | rfl | simp, H5.out.2⟩
  by_cases h2 : k = 2
  · subst h2
    obtain rfl : S = N.drop 2 s := N.textEnd_one hT (N.text_drop hk (by omega) (by omega) (by decide) rfl rfl rfl)
    have hcat : ((⟨#[46, 80, 78, 66, 82, 81]⟩ : ByteArray).extract 2 3 ++ ⟨#[64]⟩) ++ N.tx s = N.drop 2 s := rfl
    have z1 : ((⟨#[46, 80, 78, 66, 82, 81]⟩ : ByteArray).extract 2 3).size + (⟨#[64]⟩ : ByteArray).size ≤ 9223372036854775807 := Nat.le_of_ble_eq_true rfl
    have z2 : ((⟨#[46, 80, 78, 66, 82, 81]⟩ : ByteArray).extract 2 3 ++ ⟨#[64]⟩).size + (N.tx s).size ≤ 9223372036854775807 := Nat.le_of_ble_eq_true rfl
    have hne : (N.drop 2 s).toList.isEmpty = false := by rw [← Bool.not_eq_true, N.empty_list]; exact fun e => absurd (N.list_of (b := []) e) (by simp)
    clear hT hk hs
    generalize N.drop 2 s = D at *
    generalize N.tx s = TX at *
    go_enter Tryd.func7, Tryd.ntmps7
    go_wp2_with (first
      | (go_at_call 11; (with_reducible refine (awake11_any _).mono ?_); rintro r w1 ⟨rfl, hb⟩; have H1 := Lib.hid (And.intro (H0.out.1.below hb) (below_next H0.out.2 hb)); have c0 := H1.out.1.cell (i := 0) (by decide); have c78 := H1.out.1.cell (i := 78) (by decide); rw [show pk 0 = .u8 from rfl] at c0; rw [show pk 78 = .u8 from rfl] at c78; clear hb)
      | (go_at_call 13; (with_reducible refine (HSq.out _).mono ?_); rintro r w2 ⟨rfl, hb⟩; have H2 := Lib.hid (And.intro (H1.out.1.below hb) (below_next H1.out.2 hb)); clear hb)
      | ((with_reducible refine wp_load_box_g rfl _ rfl ?_); refine ⟨_, c, rfl, H3.out.1, ?_⟩)
      | ((with_reducible refine wp_load_box_g rfl _ rfl ?_); refine ⟨_, c, rfl, H2.out.1, ?_⟩)
      | (go_at_call 9; (with_reducible refine (HT.out _).mono ?_); rintro r w3 ⟨rfl, hb⟩; have H3 := Lib.hid (And.intro (H2.out.1.below hb) (below_next H2.out.2 hb)); clear hb)
      | (go_at_call 12; (with_reducible refine (HP.out _).mono ?_); rintro r w4 ⟨rfl, hb⟩; have H4 := Lib.hid (below_next (H3.out.2.alloc H3.out.2.size _) hb); clear hb)
      | ((with_reducible refine wp_store_row' rfl 33 _ _ rfl ?_); refine ⟨w4.heap.size, 33, movC 0 0 0 0 false, rfl, rfl, ⟨_, heap_alloc_new _ _, (by kernel_rfl)⟩, Tryd.info_mvB _ _ _ _ _, Tryd.one_mvB _ _ _ _ _, ?_⟩; intro W5 hP hq; have H5 := Lib.hid (And.intro hq (hP.below (H4.out.alloc H4.out.size _) H4.out.size)); have m0 := H5.out.1.cell 0; have m1 := H5.out.1.cell 1; have m2 := H5.out.1.cell 2; have m3 := H5.out.1.cell 3; have m4 := H5.out.1.cell 4; rw [show (movC 0 0 0 0 false)[0]? = some (.int .i8 0) from rfl] at m0; rw [show (movC 0 0 0 0 false)[1]? = some (.int .i8 0) from rfl] at m1; rw [show (movC 0 0 0 0 false)[2]? = some (.int .u8 0) from rfl] at m2; rw [show (movC 0 0 0 0 false)[3]? = some (.int .u8 0) from rfl] at m3; rw [show (movC 0 0 0 0 false)[4]? = some (.bool false) from rfl] at m4; clear hP hq))
    go_ret
    exact ⟨by first | rfl | simp, H5.out.2⟩
  by_cases h3 : k = 3
  · subst h3
    obtain rfl : S = N.drop 3 s := N.textEnd_one hT (N.text_drop hk (by omega) (by omega) (by decide) rfl rfl rfl)
    have hcat : ((⟨#[46, 80, 78, 66, 82, 81]⟩ : ByteArray).extract 3 4 ++ ⟨#[64]⟩) ++ N.tx s = N.drop 3 s := rfl
    have z1 : ((⟨#[46, 80, 78, 66, 82, 81]⟩ : ByteArray).extract 3 4).size + (⟨#[64]⟩ : ByteArray).size ≤ 9223372036854775807 := Nat.le_of_ble_eq_true rfl
    have z2 : ((⟨#[46, 80, 78, 66, 82, 81]⟩ : ByteArray).extract 3 4 ++ ⟨#[64]⟩).size + (N.tx s).size ≤ 9223372036854775807 := Nat.le_of_ble_eq_true rfl
    have hne : (N.drop 3 s).toList.isEmpty = false := by rw [← Bool.not_eq_true, N.empty_list]; exact fun e => absurd (N.list_of (b := []) e) (by simp)
    clear hT hk hs
    generalize N.drop 3 s = D at *
    generalize N.tx s = TX at *
    go_enter Tryd.func7, Tryd.ntmps7
    go_wp2_with (first
      | (go_at_call 11; (with_reducible refine (awake11_any _).mono ?_); rintro r w1 ⟨rfl, hb⟩; have H1 := Lib.hid (And.intro (H0.out.1.below hb) (below_next H0.out.2 hb)); have c0 := H1.out.1.cell (i := 0) (by decide); have c78 := H1.out.1.cell (i := 78) (by decide); rw [show pk 0 = .u8 from rfl] at c0; rw [show pk 78 = .u8 from rfl] at c78; clear hb)
      | (go_at_call 13; (with_reducible refine (HSq.out _).mono ?_); rintro r w2 ⟨rfl, hb⟩; have H2 := Lib.hid (And.intro (H1.out.1.below hb) (below_next H1.out.2 hb)); clear hb)
      | ((with_reducible refine wp_load_box_g rfl _ rfl ?_); refine ⟨_, c, rfl, H3.out.1, ?_⟩)
      | ((with_reducible refine wp_load_box_g rfl _ rfl ?_); refine ⟨_, c, rfl, H2.out.1, ?_⟩)
      | (go_at_call 9; (with_reducible refine (HT.out _).mono ?_); rintro r w3 ⟨rfl, hb⟩; have H3 := Lib.hid (And.intro (H2.out.1.below hb) (below_next H2.out.2 hb)); clear hb)
      | (go_at_call 12; (with_reducible refine (HP.out _).mono ?_); rintro r w4 ⟨rfl, hb⟩; have H4 := Lib.hid (below_next (H3.out.2.alloc H3.out.2.size _) hb); clear hb)
      | ((with_reducible refine wp_store_row' rfl 33 _ _ rfl ?_); refine ⟨w4.heap.size, 33, movC 0 0 0 0 false, rfl, rfl, ⟨_, heap_alloc_new _ _, (by kernel_rfl)⟩, Tryd.info_mvB _ _ _ _ _, Tryd.one_mvB _ _ _ _ _, ?_⟩; intro W5 hP hq; have H5 := Lib.hid (And.intro hq (hP.below (H4.out.alloc H4.out.size _) H4.out.size)); have m0 := H5.out.1.cell 0; have m1 := H5.out.1.cell 1; have m2 := H5.out.1.cell 2; have m3 := H5.out.1.cell 3; have m4 := H5.out.1.cell 4; rw [show (movC 0 0 0 0 false)[0]? = some (.int .i8 0) from rfl] at m0; rw [show (movC 0 0 0 0 false)[1]? = some (.int .i8 0) from rfl] at m1; rw [show (movC 0 0 0 0 false)[2]? = some (.int .u8 0) from rfl] at m2; rw [show (movC 0 0 0 0 false)[3]? = some (.int .u8 0) from rfl] at m3; rw [show (movC 0 0 0 0 false)[4]? = some (.bool false) from rfl] at m4; clear hP hq))
    go_ret
    exact ⟨by first | rfl | simp, H5.out.2⟩
  by_cases h4 : k = 4
  · subst h4
    obtain rfl : S = N.drop 4 s := N.textEnd_one hT (N.text_drop hk (by omega) (by omega) (by decide) rfl rfl rfl)
    have hcat : ((⟨#[46, 80, 78, 66, 82, 81]⟩ : ByteArray).extract 4 5 ++ ⟨#[64]⟩) ++ N.tx s = N.drop 4 s := rfl
    have z1 : ((⟨#[46, 80, 78, 66, 82, 81]⟩ : ByteArray).extract 4 5).size + (⟨#[64]⟩ : ByteArray).size ≤ 9223372036854775807 := Nat.le_of_ble_eq_true rfl
    have z2 : ((⟨#[46, 80, 78, 66, 82, 81]⟩ : ByteArray).extract 4 5 ++ ⟨#[64]⟩).size + (N.tx s).size ≤ 9223372036854775807 := Nat.le_of_ble_eq_true rfl
    have hne : (N.drop 4 s).toList.isEmpty = false := by rw [← Bool.not_eq_true, N.empty_list]; exact fun e => absurd (N.list_of (b := []) e) (by simp)
    clear hT hk hs
    generalize N.drop 4 s = D at *
    generalize N.tx s = TX at *
    go_enter Tryd.func7, Tryd.ntmps7
    go_wp2_with (first
      | (go_at_call 11; (with_reducible refine (awake11_any _).mono ?_); rintro r w1 ⟨rfl, hb⟩; have H1 := Lib.hid (And.intro (H0.out.1.below hb) (below_next H0.out.2 hb)); have c0 := H1.out.1.cell (i := 0) (by decide); have c78 := H1.out.1.cell (i := 78) (by decide); rw [show pk 0 = .u8 from rfl] at c0; rw [show pk 78 = .u8 from rfl] at c78; clear hb)
      | (go_at_call 13; (with_reducible refine (HSq.out _).mono ?_); rintro r w2 ⟨rfl, hb⟩; have H2 := Lib.hid (And.intro (H1.out.1.below hb) (below_next H1.out.2 hb)); clear hb)
      | ((with_reducible refine wp_load_box_g rfl _ rfl ?_); refine ⟨_, c, rfl, H3.out.1, ?_⟩)
      | ((with_reducible refine wp_load_box_g rfl _ rfl ?_); refine ⟨_, c, rfl, H2.out.1, ?_⟩)
      | (go_at_call 9; (with_reducible refine (HT.out _).mono ?_); rintro r w3 ⟨rfl, hb⟩; have H3 := Lib.hid (And.intro (H2.out.1.below hb) (below_next H2.out.2 hb)); clear hb)
      | (go_at_call 12; (with_reducible refine (HP.out _).mono ?_); rintro r w4 ⟨rfl, hb⟩; have H4 := Lib.hid (below_next (H3.out.2.alloc H3.out.2.size _) hb); clear hb)
      | ((with_reducible refine wp_store_row' rfl 33 _ _ rfl ?_); refine ⟨w4.heap.size, 33, movC 0 0 0 0 false, rfl, rfl, ⟨_, heap_alloc_new _ _, (by kernel_rfl)⟩, Tryd.info_mvB _ _ _ _ _, Tryd.one_mvB _ _ _ _ _, ?_⟩; intro W5 hP hq; have H5 := Lib.hid (And.intro hq (hP.below (H4.out.alloc H4.out.size _) H4.out.size)); have m0 := H5.out.1.cell 0; have m1 := H5.out.1.cell 1; have m2 := H5.out.1.cell 2; have m3 := H5.out.1.cell 3; have m4 := H5.out.1.cell 4; rw [show (movC 0 0 0 0 false)[0]? = some (.int .i8 0) from rfl] at m0; rw [show (movC 0 0 0 0 false)[1]? = some (.int .i8 0) from rfl] at m1; rw [show (movC 0 0 0 0 false)[2]? = some (.int .u8 0) from rfl] at m2; rw [show (movC 0 0 0 0 false)[3]? = some (.int .u8 0) from rfl] at m3; rw [show (movC 0 0 0 0 false)[4]? = some (.bool false) from rfl] at m4; clear hP hq))
    go_ret
    exact ⟨by first | rfl | simp, H5.out.2⟩
  by_cases h5 : k = 5
  · subst h5
    obtain rfl : S = N.drop 5 s := N.textEnd_one hT (N.text_drop hk (by omega) (by omega) (by decide) rfl rfl rfl)
    have hcat : ((⟨#[46, 80, 78, 66, 82, 81]⟩ : ByteArray).extract 5 6 ++ ⟨#[64]⟩) ++ N.tx s = N.drop 5 s := rfl
    have z1 : ((⟨#[46, 80, 78, 66, 82, 81]⟩ : ByteArray).extract 5 6).size + (⟨#[64]⟩ : ByteArray).size ≤ 9223372036854775807 := Nat.le_of_ble_eq_true rfl
    have z2 : ((⟨#[46, 80, 78, 66, 82, 81]⟩ : ByteArray).extract 5 6 ++ ⟨#[64]⟩).size + (N.tx s).size ≤ 9223372036854775807 := Nat.le_of_ble_eq_true rfl
    have hne : (N.drop 5 s).toList.isEmpty = false := by rw [← Bool.not_eq_true, N.empty_list]; exact fun e => absurd (N.list_of (b := []) e) (by simp)
    clear hT hk hs
    generalize N.drop 5 s = D at *
    generalize N.tx s = TX at *
    go_enter Tryd.func7, Tryd.ntmps7
    go_wp2_with (first
      | (go_at_call 11; (with_reducible refine (awake11_any _).mono ?_); rintro r w1 ⟨rfl, hb⟩; have H1 := Lib.hid (And.intro (H0.out.1.below hb) (below_next H0.out.2 hb)); have c0 := H1.out.1.cell (i := 0) (by decide); have c78 := H1.out.1.cell (i := 78) (by decide); rw [show pk 0 = .u8 from rfl] at c0; rw [show pk 78 = .u8 from rfl] at c78; clear hb)
      | (go_at_call 13; (with_reducible refine (HSq.out _).mono ?_); rintro r w2 ⟨rfl, hb⟩; have H2 := Lib.hid (And.intro (H1.out.1.below hb) (below_next H1.out.2 hb)); clear hb)
      | ((with_reducible refine wp_load_box_g rfl _ rfl ?_); refine ⟨_, c, rfl, H3.out.1, ?_⟩)
      | ((with_reducible refine wp_load_box_g rfl _ rfl ?_); refine ⟨_, c, rfl, H2.out.1, ?_⟩)
      | (go_at_call 9; (with_reducible refine (HT.out _).mono ?_); rintro r w3 ⟨rfl, hb⟩; have H3 := Lib.hid (And.intro (H2.out.1.below hb) (below_next H2.out.2 hb)); clear hb)
      | (go_at_call 12; (with_reducible refine (HP.out _).mono ?_); rintro r w4 ⟨rfl, hb⟩; have H4 := Lib.hid (below_next (H3.out.2.alloc H3.out.2.size _) hb); clear hb)
      | ((with_reducible refine wp_store_row' rfl 33 _ _ rfl ?_); refine ⟨w4.heap.size, 33, movC 0 0 0 0 false, rfl, rfl, ⟨_, heap_alloc_new _ _, (by kernel_rfl)⟩, Tryd.info_mvB _ _ _ _ _, Tryd.one_mvB _ _ _ _ _, ?_⟩; intro W5 hP hq; have H5 := Lib.hid (And.intro hq (hP.below (H4.out.alloc H4.out.size _) H4.out.size)); have m0 := H5.out.1.cell 0; have m1 := H5.out.1.cell 1; have m2 := H5.out.1.cell 2; have m3 := H5.out.1.cell 3; have m4 := H5.out.1.cell 4; rw [show (movC 0 0 0 0 false)[0]? = some (.int .i8 0) from rfl] at m0; rw [show (movC 0 0 0 0 false)[1]? = some (.int .i8 0) from rfl] at m1; rw [show (movC 0 0 0 0 false)[2]? = some (.int .u8 0) from rfl] at m2; rw [show (movC 0 0 0 0 false)[3]? = some (.int .u8 0) from rfl] at m3; rw [show (movC 0 0 0 0 false)[4]? = some (.bool false) from rfl] at m4; clear hP hq))
    go_ret
    exact ⟨by first | rfl | simp, H5.out.2⟩
  have k5 : decide (5 < k) = true := by simp; omega
  have k00 : (k == 0) = false := by simpa using h0
  obtain rfl : S = ⟨#[]⟩ := N.textEnd_one hT (N.text_noDrop (by omega) (fun h => by omega))
  clear hT hk h0 h1 h2 h3 h4 h5 hk0 hs
  generalize N.tx s = TX at *
  go_enter Tryd.func7, Tryd.ntmps7
  go_wp2_with (first
    | (go_at_call 11; (with_reducible refine (awake11_any _).mono ?_); rintro r w1 ⟨rfl, hb⟩; have H1 := Lib.hid (And.intro (H0.out.1.below hb) (below_next H0.out.2 hb)); have c0 := H1.out.1.cell (i := 0) (by decide); have c78 := H1.out.1.cell (i := 78) (by decide); rw [show pk 0 = .u8 from rfl] at c0; rw [show pk 78 = .u8 from rfl] at c78; clear hb)
    | (go_at_call 13; (with_reducible refine (HSq.out _).mono ?_); rintro r w2 ⟨rfl, hb⟩; have H2 := Lib.hid (And.intro (H1.out.1.below hb) (below_next H1.out.2 hb)); clear hb)
    | ((with_reducible refine wp_load_box_g rfl _ rfl ?_); refine ⟨_, c, rfl, H3.out.1, ?_⟩)
    | ((with_reducible refine wp_load_box_g rfl _ rfl ?_); refine ⟨_, c, rfl, H2.out.1, ?_⟩)
    | (go_at_call 9; (with_reducible refine (HT.out _).mono ?_); rintro r w3 ⟨rfl, hb⟩; have H3 := Lib.hid (And.intro (H2.out.1.below hb) (below_next H2.out.2 hb)); clear hb)
    | (go_at_call 12; (with_reducible refine (HP.out _).mono ?_); rintro r w4 ⟨rfl, hb⟩; have H4 := Lib.hid (below_next (H3.out.2.alloc H3.out.2.size _) hb); clear hb)
    | ((with_reducible refine wp_store_row' rfl 33 _ _ rfl ?_); refine ⟨w4.heap.size, 33, movC 0 0 0 0 false, rfl, rfl, ⟨_, heap_alloc_new _ _, (by kernel_rfl)⟩, Tryd.info_mvB _ _ _ _ _, Tryd.one_mvB _ _ _ _ _, ?_⟩; intro W5 hP hq; have H5 := Lib.hid (And.intro hq (hP.below (H4.out.alloc H4.out.size _) H4.out.size)); have m0 := H5.out.1.cell 0; have m1 := H5.out.1.cell 1; have m2 := H5.out.1.cell 2; have m3 := H5.out.1.cell 3; have m4 := H5.out.1.cell 4; rw [show (movC 0 0 0 0 false)[0]? = some (.int .i8 0) from rfl] at m0; rw [show (movC 0 0 0 0 false)[1]? = some (.int .i8 0) from rfl] at m1; rw [show (movC 0 0 0 0 false)[2]? = some (.int .u8 0) from rfl] at m2; rw [show (movC 0 0 0 0 false)[3]? = some (.int .u8 0) from rfl] at m3; rw [show (movC 0 0 0 0 false)[4]? = some (.bool false) from rfl] at m4; clear hP hq))
  go_ret
  exact ⟨by first | rfl | simp, H5.out.2⟩

set_option maxRecDepth 100000 in
set_option maxHeartbeats 4000000 in
theorem movesDrops_walk (c : Nat → Int) (s k b : Int) (w : World) (hc : PosOk c) (hs : -128 ≤ s ∧ s ≤ 127) (hk : 0 ≤ k ∧ k ≤ 255) (hb : 0 ≤ b ∧ b ≤ 255) :
    Calls Tryd.prog 7 #[.agg (posC c), .int .i8 s, .int .u8 k, .int .u8 b] w fun e w' => e = .returned (.bool true) ∧ Below w.heap.size w w' := by
  by_cases h : N.known c ∧ 0 ≤ s ∧ s < 64
  · obtain ⟨hkn, h0, h1⟩ := h
    obtain ⟨s, rfl⟩ : ∃ q : Nat, s = (q : Int) := ⟨s.toNat, by omega⟩
    obtain ⟨b, rfl⟩ : ∃ q : Nat, b = (q : Int) := ⟨b.toNat, by omega⟩
    by_cases b1 : b = 80
    · subst b1; exact movesDrops_1 c s k w hc hkn (by omega) hk
    by_cases b2 : b = 78
    · subst b2; exact movesDrops_2 c s k w hc hkn (by omega) hk
    by_cases b3 : b = 66
    · subst b3; exact movesDrops_3 c s k w hc hkn (by omega) hk
    by_cases b4 : b = 82
    · subst b4; exact movesDrops_4 c s k w hc hkn (by omega) hk
    by_cases b5 : b = 81
    · subst b5; exact movesDrops_5 c s k w hc hkn (by omega) hk
    exact movesDrops_0 c s k b w hc hkn (by omega) hk (by omega) b1 b2 b3 b4 b5
  · have H0 := Lib.hid (And.intro (PosAt.new w c) ((Below.refl _ w).alloc (Nat.le_refl _) (.cells (posC c) 31)))
    have i1 := N.kn_iff hc
    unfold N.kn at i1
    rw [Bool.and_eq_true, decide_eq_true_eq, decide_eq_true_eq] at i1
    by_cases k0 : s < 0
    · have d0 : decide (s < 0) = true := by simpa using k0
      clear k0 h i1 hc hs hk hb
      go_enter Tryd.func7, Tryd.ntmps7
      go_wp2_with (first
        | (go_at_call 11; (with_reducible refine (awake11_any _).mono ?_); rintro r w1 ⟨rfl, hb⟩; have H1 := Lib.hid (And.intro (H0.out.1.below hb) (below_next H0.out.2 hb)); have c0 := H1.out.1.cell (i := 0) (by decide); have c78 := H1.out.1.cell (i := 78) (by decide); rw [show pk 0 = .u8 from rfl] at c0; rw [show pk 78 = .u8 from rfl] at c78; clear hb))
      go_ret
      exact ⟨rfl, H1.out.2⟩
    have d0 : decide (s < 0) = false := by simpa using k0
    by_cases k1 : 63 < s
    · have d1 : decide (63 < s) = true := by simpa using k1
      clear k0 k1 h i1 hc hs hk hb
      go_enter Tryd.func7, Tryd.ntmps7
      go_wp2_with (first
        | (go_at_call 11; (with_reducible refine (awake11_any _).mono ?_); rintro r w1 ⟨rfl, hb⟩; have H1 := Lib.hid (And.intro (H0.out.1.below hb) (below_next H0.out.2 hb)); have c0 := H1.out.1.cell (i := 0) (by decide); have c78 := H1.out.1.cell (i := 78) (by decide); rw [show pk 0 = .u8 from rfl] at c0; rw [show pk 78 = .u8 from rfl] at c78; clear hb))
      go_ret
      exact ⟨rfl, H1.out.2⟩
    have d1 : decide (63 < s) = false := by simpa using k1
    by_cases k2 : 9 ≤ c 0
    · have d2 : decide (9 ≤ c 0) = true := by simpa using k2
      clear k0 k1 k2 h i1 hc hs hk hb
      go_enter Tryd.func7, Tryd.ntmps7
      go_wp2_with (first
        | (go_at_call 11; (with_reducible refine (awake11_any _).mono ?_); rintro r w1 ⟨rfl, hb⟩; have H1 := Lib.hid (And.intro (H0.out.1.below hb) (below_next H0.out.2 hb)); have c0 := H1.out.1.cell (i := 0) (by decide); have c78 := H1.out.1.cell (i := 78) (by decide); rw [show pk 0 = .u8 from rfl] at c0; rw [show pk 78 = .u8 from rfl] at c78; clear hb))
      go_ret
      exact ⟨rfl, H1.out.2⟩
    have d2 : decide (9 ≤ c 0) = false := by simpa using k2
    by_cases k3 : 1 < c 78
    · have d3 : decide (1 < c 78) = true := by simpa using k3
      clear k0 k1 k2 k3 h i1 hc hs hk hb
      go_enter Tryd.func7, Tryd.ntmps7
      go_wp2_with (first
        | (go_at_call 11; (with_reducible refine (awake11_any _).mono ?_); rintro r w1 ⟨rfl, hb⟩; have H1 := Lib.hid (And.intro (H0.out.1.below hb) (below_next H0.out.2 hb)); have c0 := H1.out.1.cell (i := 0) (by decide); have c78 := H1.out.1.cell (i := 78) (by decide); rw [show pk 0 = .u8 from rfl] at c0; rw [show pk 78 = .u8 from rfl] at c78; clear hb))
      go_ret
      exact ⟨rfl, H1.out.2⟩
    exact absurd ⟨i1.1 (by omega), by omega, by omega⟩ h
end Go.Proofs.YtldpejeodhkgdaaDoor
