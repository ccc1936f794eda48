/- The program's package moves: castlings are read, whole. -/
import Derived.Test.YtldpejeodhkgdaaMvK
namespace Go.Proofs.Ytldpejeodhkgdaa
open Go.RowKit Go.Sort
attribute [local go_sem] Oper.semAt_some

namespace N
theorem kn_iff {c : Nat → Int} (hc : PosOk c) : kn c = true ↔ known c := by
  have h0 := hc 0 (by decide)
  have h78 := hc 78 (by decide)
  rw [show pk 0 = .u8 from rfl] at h0
  rw [show pk 78 = .u8 from rfl] at h78
  have h0 := bounds_u8 h0
  have h78 := bounds_u8 h78
  unfold kn known
  rw [Bool.and_eq_true, decide_eq_true_eq, decide_eq_true_eq]
  omega
end N
theorem side_fix (c : Nat → Int) (t k : Nat) (s : ByteArray) (hk : N.known c) (h0 : c 0 ≠ 1) (ht : c 78 = (t : Int)) (hk2 : k < 2) :
    ∃ (T : ByteArray) (e : Bool), (T.toList == s.toList) = e ∧ (N.cok c k = true → ∀ W, Calls Try.prog 17 #[.agg (posC c), .agg (movC ((56 * t + 4 : Nat) : Int) (N.tg c t k) 0 0 true)] W fun e w' => e = .returned (.string T) ∧ Below W.heap.size W w') ∧
      (N.cok c k = true → e = true → N.RookR c s ((56 * t + 4 : Nat) : Int) (N.tg c t k) true) ∧ ((N.cok c k && e) = false → N.sideOk c k = true → s ≠ N.two (56 * t + 4) (56 * t + N.goal k)) := by
  refine ⟨N.two (56 * t + 4) (56 * t + N.goal k), _, rfl, fun hc W => ?_, fun hc he => ?_, fun he hs e => ?_⟩
  · rw [N.cok_iff h0] at hc
    obtain ⟨g, h1, h2, h3, h4⟩ := N.side_cas hk h0 ht hk2 hc
    rw [h1, ← h4]
    have : t < 2 := by have := hk.2; omega
    exact mvcastles_any c _ g W hk (by omega) h2
  · rw [N.cok_iff h0] at hc
    exact N.rookO_some hk h0 ht hk2 hc rfl ((N.toList_iff _ _).1 he)
  · rw [N.cok_iff h0, hs, Bool.true_and, ← Bool.not_eq_true, N.toList_iff] at he
    exact he e.symm

set_option maxRecDepth 100000 in
set_option maxHeartbeats 4000000 in
theorem mvrook_o0 (c : Nat → Int) (s : ByteArray) (hk : N.known c) (hc0 : c 0 ≠ 1) (ht : c 78 = 0) : ∃ (f g : Int) (z ok : Bool), N.RookR c s f g ok ∧ (ok = true → z = true) ∧ ∀ w, Calls Try.prog 8 #[.agg (posC c), .string s] w fun e w' => e = .returned (.tuple #[.agg (movC f g 0 0 z), .bool ok]) ∧ Below w.heap.size w w' := by
  have d0 : (c 0 == 1) = false := by simpa using hc0
  have HC0 : Hid (∀ W, Calls Try.prog 19 #[.agg (posC c), .int .i64 0] W fun e w' => e = .returned (.tuple #[.agg (movC 4 (N.tg c 0 0) 0 0 true), .bool (N.cok c 0)]) ∧ Below W.heap.size W w') := Lib.hid (fun W => mvcastling_00 c W ht)
  have HC1 : Hid (∀ W, Calls Try.prog 19 #[.agg (posC c), .int .i64 1] W fun e w' => e = .returned (.tuple #[.agg (movC 4 (N.tg c 0 1) 0 0 true), .bool (N.cok c 1)]) ∧ Below W.heap.size W w') := Lib.hid (fun W => mvcastling_01 c W ht)
  obtain ⟨T0, e0, he0, hS0, hR0, hN0⟩ := side_fix c 0 0 s hk hc0 ht (by decide)
  obtain ⟨T1, e1, he1, hS1, hR1, hN1⟩ := side_fix c 0 1 s hk hc0 ht (by decide)
  have HN := Lib.hid (fun (h : (N.cok c 0 && e0) = false) (h' : (N.cok c 1 && e1) = false) => N.rookO_none (s := s) hc0 (t := 0) ht (fun k hk2 hs => by
    rcases (show k = 0 ∨ k = 1 by omega) with rfl | rfl
    · exact hN0 h hs
    · exact hN1 h' hs))
  have HS0 : Hid (N.cok c 0 = true → ∀ W, Calls Try.prog 17 #[.agg (posC c), .agg (movC 4 (N.tg c 0 0) 0 0 true)] W fun e w' => e = .returned (.string T0) ∧ Below W.heap.size W w') := Lib.hid hS0
  have HS1 : Hid (N.cok c 1 = true → ∀ W, Calls Try.prog 17 #[.agg (posC c), .agg (movC 4 (N.tg c 0 1) 0 0 true)] W fun e w' => e = .returned (.string T1) ∧ Below W.heap.size W w') := Lib.hid hS1
  have HR0 : Hid (N.cok c 0 = true → e0 = true → N.RookR c s 4 (N.tg c 0 0) true) := Lib.hid hR0
  have HR1 : Hid (N.cok c 1 = true → e1 = true → N.RookR c s 4 (N.tg c 0 1) true) := Lib.hid hR1
  clear hS0 hR0 hN0 hS1 hR1 hN1 ht hc0 hk
  obtain ⟨tg0, h1⟩ : ∃ x, N.tg c 0 0 = x := ⟨_, rfl⟩
  obtain ⟨tg1, h2⟩ : ∃ x, N.tg c 0 1 = x := ⟨_, rfl⟩
  obtain ⟨b0, h3⟩ : ∃ x, N.cok c 0 = x := ⟨_, rfl⟩
  obtain ⟨b1, h4⟩ : ∃ x, N.cok c 1 = x := ⟨_, rfl⟩
  rw [h1, h3] at HC0 HS0 HR0
  rw [h2, h4] at HC1 HS1 HR1
  rw [h3, h4] at HN
  clear h1 h2 h3 h4
  cases b0
  · cases b1
    · refine ⟨0, 0, false, false, HN.out (by first | rfl | simp) (by first | rfl | simp), nofun, fun w => ?_⟩
      have h0 : MvRes w w.heap.size c ((w.alloc (.cells (posC c) 31)).alloc (.cells #[.int .i8 0, .int .i8 0, .int .u8 0, .int .u8 0, .bool false] 33)) :=
        ⟨(PosAt.new w c).alloc _, by have := RowAt.new (w.alloc (.cells (posC c) 31)) #[.int .i8 0, .int .i8 0, .int .u8 0, .int .u8 0, .bool false] 33; rwa [World.size_alloc] at this, ((Below.refl _ _).alloc (Nat.le_refl _) _).alloc (by simp) _⟩
      have c0 := h0.p.cell (i := 0) (by decide)
      rw [show pk 0 = .u8 from rfl] at c0
      have H0 := Lib.hid h0
      clear h0
      go_enter Try.func8, Try.ntmps8
      go_wp2_with (go_at_call 18; (with_reducible refine (mvgoals_any _).mono ?_); rintro e wg ⟨rfl, hbg⟩; have HG := Lib.hid (H0.out.next hbg); clear hbg)
      refine wp_loop_rounds 3 ?_
      rw [rounds_succ]
      go_wp2_with (first
        | ((with_reducible refine wp_load_box_g rfl _ rfl ?_); refine ⟨_, c, rfl, HV0.out.1.p, ?_⟩)
        | ((with_reducible refine wp_load_box_g rfl _ rfl ?_); refine ⟨_, c, rfl, HG.out.p, ?_⟩)
        | (go_at_call 19; (with_reducible refine (HC0.out _).mono ?_); rintro e wc0 ⟨rfl, hbc⟩; have HK0 := Lib.hid (HG.out.next hbc); clear hbc)
        | (go_at_call 17; (with_reducible refine (HS0.out _).mono ?_); rintro e wd0 ⟨rfl, hbc⟩; have HW0 := Lib.hid (And.intro (HV0.out.1.next hbc) (And.intro (HV0.out.2.1.below hbc) HV0.out.2.2)); clear hbc)
        | ((with_reducible refine wp_store_row' rfl 33 _ _ rfl ?_); refine ⟨w.heap.size + 1, 33, movC 4 tg0 0 0 true, rfl, rfl, ⟨_, HW0.out.1.res.heap, (by kernel_rfl)⟩, Try.info_mvB _ _ _ _ _, Try.one_mvB _ _ _ _ _, ?_⟩; intro W9 hP9 hq9; have HB := Lib.hid (hP9.below HW0.out.1.below (Nat.le_succ _)))
        | ((with_reducible refine wp_store_row' rfl 33 _ _ rfl ?_); refine ⟨wc0.heap.size, 33, movC 4 tg0 0 0 true, rfl, rfl, ⟨_, heap_alloc_new _ _, (by kernel_rfl)⟩, Try.info_mvB _ _ _ _ _, Try.one_mvB _ _ _ _ _, ?_⟩; intro V0 hP hq; have HV0 := Lib.hid (And.intro ((HK0.out.next ((Below.refl _ _).alloc (Nat.le_refl _) _)).other hP HK0.out.res.lt) (And.intro hq HK0.out.res.lt)); clear hP hq)
        | ((with_reducible refine mv_load_rowG rfl 33 _ rfl Try.underlying33 rfl ?_); refine ⟨_, _, _, rfl, HW0.out.2.1, Try.info_mvB _ _ _ _ _, ?_⟩)
        | ((with_reducible refine mv_load_rowG rfl 33 _ rfl Try.underlying33 rfl ?_); refine ⟨_, _, _, rfl, HV0.out.2.1, Try.info_mvB _ _ _ _ _, ?_⟩))
      rw [rounds_succ]
      go_wp2_with (first
        | ((with_reducible refine wp_load_box_g rfl _ rfl ?_); refine ⟨_, c, rfl, HV1.out.1.p, ?_⟩)
        | ((with_reducible refine wp_load_box_g rfl _ rfl ?_); refine ⟨_, c, rfl, HV0.out.1.p, ?_⟩)
        | (go_at_call 19; (with_reducible refine (HC1.out _).mono ?_); rintro e wc1 ⟨rfl, hbc⟩; have HK1 := Lib.hid (HV0.out.1.next hbc); clear hbc)
        | (go_at_call 17; (with_reducible refine (HS1.out _).mono ?_); rintro e wd1 ⟨rfl, hbc⟩; have HW1 := Lib.hid (And.intro (HV1.out.1.next hbc) (And.intro (HV1.out.2.1.below hbc) HV1.out.2.2)); clear hbc)
        | ((with_reducible refine wp_store_row' rfl 33 _ _ rfl ?_); refine ⟨w.heap.size + 1, 33, movC 4 tg1 0 0 true, rfl, rfl, ⟨_, HW1.out.1.res.heap, (by kernel_rfl)⟩, Try.info_mvB _ _ _ _ _, Try.one_mvB _ _ _ _ _, ?_⟩; intro W9 hP9 hq9; have HB := Lib.hid (hP9.below HW1.out.1.below (Nat.le_succ _)))
        | ((with_reducible refine wp_store_row' rfl 33 _ _ rfl ?_); refine ⟨wc1.heap.size, 33, movC 4 tg1 0 0 true, rfl, rfl, ⟨_, heap_alloc_new _ _, (by kernel_rfl)⟩, Try.info_mvB _ _ _ _ _, Try.one_mvB _ _ _ _ _, ?_⟩; intro V1 hP hq; have HV1 := Lib.hid (And.intro ((HK1.out.next ((Below.refl _ _).alloc (Nat.le_refl _) _)).other hP HK1.out.res.lt) (And.intro hq HK1.out.res.lt)); clear hP hq)
        | ((with_reducible refine mv_load_rowG rfl 33 _ rfl Try.underlying33 rfl ?_); refine ⟨_, _, _, rfl, HW1.out.2.1, Try.info_mvB _ _ _ _ _, ?_⟩)
        | ((with_reducible refine mv_load_rowG rfl 33 _ rfl Try.underlying33 rfl ?_); refine ⟨_, _, _, rfl, HV1.out.2.1, Try.info_mvB _ _ _ _ _, ?_⟩))
      rw [rounds_succ]
      go_wp2_with ((with_reducible refine wp_store_row' rfl 33 _ _ rfl ?_); refine ⟨w.heap.size + 1, 33, movC 0 0 0 0 false, rfl, rfl, ⟨_, HV1.out.1.res.heap, (by kernel_rfl)⟩, Try.info_mvB _ _ _ _ _, Try.one_mvB _ _ _ _ _, ?_⟩; intro W9 hP9 hq9; have HB := Lib.hid (hP9.below HV1.out.1.below (Nat.le_succ _)))
      exact bodyPost_ret (results_mv_tmp Try.results8 _ _ (w.heap.size + 1) 33 _ (0, 0) _ rfl hq9.heap Try.underlying33 rfl (Try.info_mvB _ _ _ _ _)) rfl ⟨rfl, HB.out⟩
    replace HS1 := Lib.hid (HS1.out rfl)
    cases e1
    · refine ⟨0, 0, false, false, HN.out (by first | rfl | simp) (by first | rfl | simp), nofun, fun w => ?_⟩
      have h0 : MvRes w w.heap.size c ((w.alloc (.cells (posC c) 31)).alloc (.cells #[.int .i8 0, .int .i8 0, .int .u8 0, .int .u8 0, .bool false] 33)) :=
        ⟨(PosAt.new w c).alloc _, by have := RowAt.new (w.alloc (.cells (posC c) 31)) #[.int .i8 0, .int .i8 0, .int .u8 0, .int .u8 0, .bool false] 33; rwa [World.size_alloc] at this, ((Below.refl _ _).alloc (Nat.le_refl _) _).alloc (by simp) _⟩
      have c0 := h0.p.cell (i := 0) (by decide)
      rw [show pk 0 = .u8 from rfl] at c0
      have H0 := Lib.hid h0
      clear h0
      go_enter Try.func8, Try.ntmps8
      go_wp2_with (go_at_call 18; (with_reducible refine (mvgoals_any _).mono ?_); rintro e wg ⟨rfl, hbg⟩; have HG := Lib.hid (H0.out.next hbg); clear hbg)
      refine wp_loop_rounds 3 ?_
      rw [rounds_succ]
      go_wp2_with (first
        | ((with_reducible refine wp_load_box_g rfl _ rfl ?_); refine ⟨_, c, rfl, HV0.out.1.p, ?_⟩)
        | ((with_reducible refine wp_load_box_g rfl _ rfl ?_); refine ⟨_, c, rfl, HG.out.p, ?_⟩)
        | (go_at_call 19; (with_reducible refine (HC0.out _).mono ?_); rintro e wc0 ⟨rfl, hbc⟩; have HK0 := Lib.hid (HG.out.next hbc); clear hbc)
        | (go_at_call 17; (with_reducible refine (HS0.out _).mono ?_); rintro e wd0 ⟨rfl, hbc⟩; have HW0 := Lib.hid (And.intro (HV0.out.1.next hbc) (And.intro (HV0.out.2.1.below hbc) HV0.out.2.2)); clear hbc)
        | ((with_reducible refine wp_store_row' rfl 33 _ _ rfl ?_); refine ⟨w.heap.size + 1, 33, movC 4 tg0 0 0 true, rfl, rfl, ⟨_, HW0.out.1.res.heap, (by kernel_rfl)⟩, Try.info_mvB _ _ _ _ _, Try.one_mvB _ _ _ _ _, ?_⟩; intro W9 hP9 hq9; have HB := Lib.hid (hP9.below HW0.out.1.below (Nat.le_succ _)))
        | ((with_reducible refine wp_store_row' rfl 33 _ _ rfl ?_); refine ⟨wc0.heap.size, 33, movC 4 tg0 0 0 true, rfl, rfl, ⟨_, heap_alloc_new _ _, (by kernel_rfl)⟩, Try.info_mvB _ _ _ _ _, Try.one_mvB _ _ _ _ _, ?_⟩; intro V0 hP hq; have HV0 := Lib.hid (And.intro ((HK0.out.next ((Below.refl _ _).alloc (Nat.le_refl _) _)).other hP HK0.out.res.lt) (And.intro hq HK0.out.res.lt)); clear hP hq)
        | ((with_reducible refine mv_load_rowG rfl 33 _ rfl Try.underlying33 rfl ?_); refine ⟨_, _, _, rfl, HW0.out.2.1, Try.info_mvB _ _ _ _ _, ?_⟩)
        | ((with_reducible refine mv_load_rowG rfl 33 _ rfl Try.underlying33 rfl ?_); refine ⟨_, _, _, rfl, HV0.out.2.1, Try.info_mvB _ _ _ _ _, ?_⟩))
      rw [rounds_succ]
      go_wp2_with (first
        | ((with_reducible refine wp_load_box_g rfl _ rfl ?_); refine ⟨_, c, rfl, HV1.out.1.p, ?_⟩)
        | ((with_reducible refine wp_load_box_g rfl _ rfl ?_); refine ⟨_, c, rfl, HV0.out.1.p, ?_⟩)
        | (go_at_call 19; (with_reducible refine (HC1.out _).mono ?_); rintro e wc1 ⟨rfl, hbc⟩; have HK1 := Lib.hid (HV0.out.1.next hbc); clear hbc)
        | (go_at_call 17; (with_reducible refine (HS1.out _).mono ?_); rintro e wd1 ⟨rfl, hbc⟩; have HW1 := Lib.hid (And.intro (HV1.out.1.next hbc) (And.intro (HV1.out.2.1.below hbc) HV1.out.2.2)); clear hbc)
        | ((with_reducible refine wp_store_row' rfl 33 _ _ rfl ?_); refine ⟨w.heap.size + 1, 33, movC 4 tg1 0 0 true, rfl, rfl, ⟨_, HW1.out.1.res.heap, (by kernel_rfl)⟩, Try.info_mvB _ _ _ _ _, Try.one_mvB _ _ _ _ _, ?_⟩; intro W9 hP9 hq9; have HB := Lib.hid (hP9.below HW1.out.1.below (Nat.le_succ _)))
        | ((with_reducible refine wp_store_row' rfl 33 _ _ rfl ?_); refine ⟨wc1.heap.size, 33, movC 4 tg1 0 0 true, rfl, rfl, ⟨_, heap_alloc_new _ _, (by kernel_rfl)⟩, Try.info_mvB _ _ _ _ _, Try.one_mvB _ _ _ _ _, ?_⟩; intro V1 hP hq; have HV1 := Lib.hid (And.intro ((HK1.out.next ((Below.refl _ _).alloc (Nat.le_refl _) _)).other hP HK1.out.res.lt) (And.intro hq HK1.out.res.lt)); clear hP hq)
        | ((with_reducible refine mv_load_rowG rfl 33 _ rfl Try.underlying33 rfl ?_); refine ⟨_, _, _, rfl, HW1.out.2.1, Try.info_mvB _ _ _ _ _, ?_⟩)
        | ((with_reducible refine mv_load_rowG rfl 33 _ rfl Try.underlying33 rfl ?_); refine ⟨_, _, _, rfl, HV1.out.2.1, Try.info_mvB _ _ _ _ _, ?_⟩))
      rw [rounds_succ]
      go_wp2_with ((with_reducible refine wp_store_row' rfl 33 _ _ rfl ?_); refine ⟨w.heap.size + 1, 33, movC 0 0 0 0 false, rfl, rfl, ⟨_, HW1.out.1.res.heap, (by kernel_rfl)⟩, Try.info_mvB _ _ _ _ _, Try.one_mvB _ _ _ _ _, ?_⟩; intro W9 hP9 hq9; have HB := Lib.hid (hP9.below HW1.out.1.below (Nat.le_succ _)))
      exact bodyPost_ret (results_mv_tmp Try.results8 _ _ (w.heap.size + 1) 33 _ (0, 0) _ rfl hq9.heap Try.underlying33 rfl (Try.info_mvB _ _ _ _ _)) rfl ⟨rfl, HB.out⟩
    · refine ⟨4, tg1, true, true, HR1.out rfl rfl, fun _ => rfl, fun w => ?_⟩
      have h0 : MvRes w w.heap.size c ((w.alloc (.cells (posC c) 31)).alloc (.cells #[.int .i8 0, .int .i8 0, .int .u8 0, .int .u8 0, .bool false] 33)) :=
        ⟨(PosAt.new w c).alloc _, by have := RowAt.new (w.alloc (.cells (posC c) 31)) #[.int .i8 0, .int .i8 0, .int .u8 0, .int .u8 0, .bool false] 33; rwa [World.size_alloc] at this, ((Below.refl _ _).alloc (Nat.le_refl _) _).alloc (by simp) _⟩
      have c0 := h0.p.cell (i := 0) (by decide)
      rw [show pk 0 = .u8 from rfl] at c0
      have H0 := Lib.hid h0
      clear h0
      go_enter Try.func8, Try.ntmps8
      go_wp2_with (go_at_call 18; (with_reducible refine (mvgoals_any _).mono ?_); rintro e wg ⟨rfl, hbg⟩; have HG := Lib.hid (H0.out.next hbg); clear hbg)
      refine wp_loop_rounds 3 ?_
      rw [rounds_succ]
      go_wp2_with (first
        | ((with_reducible refine wp_load_box_g rfl _ rfl ?_); refine ⟨_, c, rfl, HV0.out.1.p, ?_⟩)
        | ((with_reducible refine wp_load_box_g rfl _ rfl ?_); refine ⟨_, c, rfl, HG.out.p, ?_⟩)
        | (go_at_call 19; (with_reducible refine (HC0.out _).mono ?_); rintro e wc0 ⟨rfl, hbc⟩; have HK0 := Lib.hid (HG.out.next hbc); clear hbc)
        | (go_at_call 17; (with_reducible refine (HS0.out _).mono ?_); rintro e wd0 ⟨rfl, hbc⟩; have HW0 := Lib.hid (And.intro (HV0.out.1.next hbc) (And.intro (HV0.out.2.1.below hbc) HV0.out.2.2)); clear hbc)
        | ((with_reducible refine wp_store_row' rfl 33 _ _ rfl ?_); refine ⟨w.heap.size + 1, 33, movC 4 tg0 0 0 true, rfl, rfl, ⟨_, HW0.out.1.res.heap, (by kernel_rfl)⟩, Try.info_mvB _ _ _ _ _, Try.one_mvB _ _ _ _ _, ?_⟩; intro W9 hP9 hq9; have HB := Lib.hid (hP9.below HW0.out.1.below (Nat.le_succ _)))
        | ((with_reducible refine wp_store_row' rfl 33 _ _ rfl ?_); refine ⟨wc0.heap.size, 33, movC 4 tg0 0 0 true, rfl, rfl, ⟨_, heap_alloc_new _ _, (by kernel_rfl)⟩, Try.info_mvB _ _ _ _ _, Try.one_mvB _ _ _ _ _, ?_⟩; intro V0 hP hq; have HV0 := Lib.hid (And.intro ((HK0.out.next ((Below.refl _ _).alloc (Nat.le_refl _) _)).other hP HK0.out.res.lt) (And.intro hq HK0.out.res.lt)); clear hP hq)
        | ((with_reducible refine mv_load_rowG rfl 33 _ rfl Try.underlying33 rfl ?_); refine ⟨_, _, _, rfl, HW0.out.2.1, Try.info_mvB _ _ _ _ _, ?_⟩)
        | ((with_reducible refine mv_load_rowG rfl 33 _ rfl Try.underlying33 rfl ?_); refine ⟨_, _, _, rfl, HV0.out.2.1, Try.info_mvB _ _ _ _ _, ?_⟩))
      rw [rounds_succ]
      go_wp2_with (first
        | ((with_reducible refine wp_load_box_g rfl _ rfl ?_); refine ⟨_, c, rfl, HV1.out.1.p, ?_⟩)
        | ((with_reducible refine wp_load_box_g rfl _ rfl ?_); refine ⟨_, c, rfl, HV0.out.1.p, ?_⟩)
        | (go_at_call 19; (with_reducible refine (HC1.out _).mono ?_); rintro e wc1 ⟨rfl, hbc⟩; have HK1 := Lib.hid (HV0.out.1.next hbc); clear hbc)
        | (go_at_call 17; (with_reducible refine (HS1.out _).mono ?_); rintro e wd1 ⟨rfl, hbc⟩; have HW1 := Lib.hid (And.intro (HV1.out.1.next hbc) (And.intro (HV1.out.2.1.below hbc) HV1.out.2.2)); clear hbc)
        | ((with_reducible refine wp_store_row' rfl 33 _ _ rfl ?_); refine ⟨w.heap.size + 1, 33, movC 4 tg1 0 0 true, rfl, rfl, ⟨_, HW1.out.1.res.heap, (by kernel_rfl)⟩, Try.info_mvB _ _ _ _ _, Try.one_mvB _ _ _ _ _, ?_⟩; intro W9 hP9 hq9; have HB := Lib.hid (hP9.below HW1.out.1.below (Nat.le_succ _)))
        | ((with_reducible refine wp_store_row' rfl 33 _ _ rfl ?_); refine ⟨wc1.heap.size, 33, movC 4 tg1 0 0 true, rfl, rfl, ⟨_, heap_alloc_new _ _, (by kernel_rfl)⟩, Try.info_mvB _ _ _ _ _, Try.one_mvB _ _ _ _ _, ?_⟩; intro V1 hP hq; have HV1 := Lib.hid (And.intro ((HK1.out.next ((Below.refl _ _).alloc (Nat.le_refl _) _)).other hP HK1.out.res.lt) (And.intro hq HK1.out.res.lt)); clear hP hq)
        | ((with_reducible refine mv_load_rowG rfl 33 _ rfl Try.underlying33 rfl ?_); refine ⟨_, _, _, rfl, HW1.out.2.1, Try.info_mvB _ _ _ _ _, ?_⟩)
        | ((with_reducible refine mv_load_rowG rfl 33 _ rfl Try.underlying33 rfl ?_); refine ⟨_, _, _, rfl, HV1.out.2.1, Try.info_mvB _ _ _ _ _, ?_⟩))
      exact bodyPost_ret (results_mv_tmp Try.results8 _ _ (w.heap.size + 1) 33 _ (0, 0) _ rfl hq9.heap Try.underlying33 rfl (Try.info_mvB _ _ _ _ _)) rfl ⟨rfl, HB.out⟩
  replace HS0 := Lib.hid (HS0.out rfl)
  cases e0
  · cases b1
    · refine ⟨0, 0, false, false, HN.out (by first | rfl | simp) (by first | rfl | simp), nofun, fun w => ?_⟩
      have h0 : MvRes w w.heap.size c ((w.alloc (.cells (posC c) 31)).alloc (.cells #[.int .i8 0, .int .i8 0, .int .u8 0, .int .u8 0, .bool false] 33)) :=
        ⟨(PosAt.new w c).alloc _, by have := RowAt.new (w.alloc (.cells (posC c) 31)) #[.int .i8 0, .int .i8 0, .int .u8 0, .int .u8 0, .bool false] 33; rwa [World.size_alloc] at this, ((Below.refl _ _).alloc (Nat.le_refl _) _).alloc (by simp) _⟩
      have c0 := h0.p.cell (i := 0) (by decide)
      rw [show pk 0 = .u8 from rfl] at c0
      have H0 := Lib.hid h0
      clear h0
      go_enter Try.func8, Try.ntmps8
      go_wp2_with (go_at_call 18; (with_reducible refine (mvgoals_any _).mono ?_); rintro e wg ⟨rfl, hbg⟩; have HG := Lib.hid (H0.out.next hbg); clear hbg)
      refine wp_loop_rounds 3 ?_
      rw [rounds_succ]
      go_wp2_with (first
        | ((with_reducible refine wp_load_box_g rfl _ rfl ?_); refine ⟨_, c, rfl, HV0.out.1.p, ?_⟩)
        | ((with_reducible refine wp_load_box_g rfl _ rfl ?_); refine ⟨_, c, rfl, HG.out.p, ?_⟩)
        | (go_at_call 19; (with_reducible refine (HC0.out _).mono ?_); rintro e wc0 ⟨rfl, hbc⟩; have HK0 := Lib.hid (HG.out.next hbc); clear hbc)
        | (go_at_call 17; (with_reducible refine (HS0.out _).mono ?_); rintro e wd0 ⟨rfl, hbc⟩; have HW0 := Lib.hid (And.intro (HV0.out.1.next hbc) (And.intro (HV0.out.2.1.below hbc) HV0.out.2.2)); clear hbc)
        | ((with_reducible refine wp_store_row' rfl 33 _ _ rfl ?_); refine ⟨w.heap.size + 1, 33, movC 4 tg0 0 0 true, rfl, rfl, ⟨_, HW0.out.1.res.heap, (by kernel_rfl)⟩, Try.info_mvB _ _ _ _ _, Try.one_mvB _ _ _ _ _, ?_⟩; intro W9 hP9 hq9; have HB := Lib.hid (hP9.below HW0.out.1.below (Nat.le_succ _)))
        | ((with_reducible refine wp_store_row' rfl 33 _ _ rfl ?_); refine ⟨wc0.heap.size, 33, movC 4 tg0 0 0 true, rfl, rfl, ⟨_, heap_alloc_new _ _, (by kernel_rfl)⟩, Try.info_mvB _ _ _ _ _, Try.one_mvB _ _ _ _ _, ?_⟩; intro V0 hP hq; have HV0 := Lib.hid (And.intro ((HK0.out.next ((Below.refl _ _).alloc (Nat.le_refl _) _)).other hP HK0.out.res.lt) (And.intro hq HK0.out.res.lt)); clear hP hq)
        | ((with_reducible refine mv_load_rowG rfl 33 _ rfl Try.underlying33 rfl ?_); refine ⟨_, _, _, rfl, HW0.out.2.1, Try.info_mvB _ _ _ _ _, ?_⟩)
        | ((with_reducible refine mv_load_rowG rfl 33 _ rfl Try.underlying33 rfl ?_); refine ⟨_, _, _, rfl, HV0.out.2.1, Try.info_mvB _ _ _ _ _, ?_⟩))
      rw [rounds_succ]
      go_wp2_with (first
        | ((with_reducible refine wp_load_box_g rfl _ rfl ?_); refine ⟨_, c, rfl, HV1.out.1.p, ?_⟩)
        | ((with_reducible refine wp_load_box_g rfl _ rfl ?_); refine ⟨_, c, rfl, HW0.out.1.p, ?_⟩)
        | (go_at_call 19; (with_reducible refine (HC1.out _).mono ?_); rintro e wc1 ⟨rfl, hbc⟩; have HK1 := Lib.hid (HW0.out.1.next hbc); clear hbc)
        | (go_at_call 17; (with_reducible refine (HS1.out _).mono ?_); rintro e wd1 ⟨rfl, hbc⟩; have HW1 := Lib.hid (And.intro (HV1.out.1.next hbc) (And.intro (HV1.out.2.1.below hbc) HV1.out.2.2)); clear hbc)
        | ((with_reducible refine wp_store_row' rfl 33 _ _ rfl ?_); refine ⟨w.heap.size + 1, 33, movC 4 tg1 0 0 true, rfl, rfl, ⟨_, HW1.out.1.res.heap, (by kernel_rfl)⟩, Try.info_mvB _ _ _ _ _, Try.one_mvB _ _ _ _ _, ?_⟩; intro W9 hP9 hq9; have HB := Lib.hid (hP9.below HW1.out.1.below (Nat.le_succ _)))
        | ((with_reducible refine wp_store_row' rfl 33 _ _ rfl ?_); refine ⟨wc1.heap.size, 33, movC 4 tg1 0 0 true, rfl, rfl, ⟨_, heap_alloc_new _ _, (by kernel_rfl)⟩, Try.info_mvB _ _ _ _ _, Try.one_mvB _ _ _ _ _, ?_⟩; intro V1 hP hq; have HV1 := Lib.hid (And.intro ((HK1.out.next ((Below.refl _ _).alloc (Nat.le_refl _) _)).other hP HK1.out.res.lt) (And.intro hq HK1.out.res.lt)); clear hP hq)
        | ((with_reducible refine mv_load_rowG rfl 33 _ rfl Try.underlying33 rfl ?_); refine ⟨_, _, _, rfl, HW1.out.2.1, Try.info_mvB _ _ _ _ _, ?_⟩)
        | ((with_reducible refine mv_load_rowG rfl 33 _ rfl Try.underlying33 rfl ?_); refine ⟨_, _, _, rfl, HV1.out.2.1, Try.info_mvB _ _ _ _ _, ?_⟩))
      rw [rounds_succ]
      go_wp2_with ((with_reducible refine wp_store_row' rfl 33 _ _ rfl ?_); refine ⟨w.heap.size + 1, 33, movC 0 0 0 0 false, rfl, rfl, ⟨_, HV1.out.1.res.heap, (by kernel_rfl)⟩, Try.info_mvB _ _ _ _ _, Try.one_mvB _ _ _ _ _, ?_⟩; intro W9 hP9 hq9; have HB := Lib.hid (hP9.below HV1.out.1.below (Nat.le_succ _)))
      exact bodyPost_ret (results_mv_tmp Try.results8 _ _ (w.heap.size + 1) 33 _ (0, 0) _ rfl hq9.heap Try.underlying33 rfl (Try.info_mvB _ _ _ _ _)) rfl ⟨rfl, HB.out⟩
    replace HS1 := Lib.hid (HS1.out rfl)
    cases e1
    · refine ⟨0, 0, false, false, HN.out (by first | rfl | simp) (by first | rfl | simp), nofun, fun w => ?_⟩
      have h0 : MvRes w w.heap.size c ((w.alloc (.cells (posC c) 31)).alloc (.cells #[.int .i8 0, .int .i8 0, .int .u8 0, .int .u8 0, .bool false] 33)) :=
        ⟨(PosAt.new w c).alloc _, by have := RowAt.new (w.alloc (.cells (posC c) 31)) #[.int .i8 0, .int .i8 0, .int .u8 0, .int .u8 0, .bool false] 33; rwa [World.size_alloc] at this, ((Below.refl _ _).alloc (Nat.le_refl _) _).alloc (by simp) _⟩
      have c0 := h0.p.cell (i := 0) (by decide)
      rw [show pk 0 = .u8 from rfl] at c0
      have H0 := Lib.hid h0
      clear h0
      go_enter Try.func8, Try.ntmps8
      go_wp2_with (go_at_call 18; (with_reducible refine (mvgoals_any _).mono ?_); rintro e wg ⟨rfl, hbg⟩; have HG := Lib.hid (H0.out.next hbg); clear hbg)
      refine wp_loop_rounds 3 ?_
      rw [rounds_succ]
      go_wp2_with (first
        | ((with_reducible refine wp_load_box_g rfl _ rfl ?_); refine ⟨_, c, rfl, HV0.out.1.p, ?_⟩)
        | ((with_reducible refine wp_load_box_g rfl _ rfl ?_); refine ⟨_, c, rfl, HG.out.p, ?_⟩)
        | (go_at_call 19; (with_reducible refine (HC0.out _).mono ?_); rintro e wc0 ⟨rfl, hbc⟩; have HK0 := Lib.hid (HG.out.next hbc); clear hbc)
        | (go_at_call 17; (with_reducible refine (HS0.out _).mono ?_); rintro e wd0 ⟨rfl, hbc⟩; have HW0 := Lib.hid (And.intro (HV0.out.1.next hbc) (And.intro (HV0.out.2.1.below hbc) HV0.out.2.2)); clear hbc)
        | ((with_reducible refine wp_store_row' rfl 33 _ _ rfl ?_); refine ⟨w.heap.size + 1, 33, movC 4 tg0 0 0 true, rfl, rfl, ⟨_, HW0.out.1.res.heap, (by kernel_rfl)⟩, Try.info_mvB _ _ _ _ _, Try.one_mvB _ _ _ _ _, ?_⟩; intro W9 hP9 hq9; have HB := Lib.hid (hP9.below HW0.out.1.below (Nat.le_succ _)))
        | ((with_reducible refine wp_store_row' rfl 33 _ _ rfl ?_); refine ⟨wc0.heap.size, 33, movC 4 tg0 0 0 true, rfl, rfl, ⟨_, heap_alloc_new _ _, (by kernel_rfl)⟩, Try.info_mvB _ _ _ _ _, Try.one_mvB _ _ _ _ _, ?_⟩; intro V0 hP hq; have HV0 := Lib.hid (And.intro ((HK0.out.next ((Below.refl _ _).alloc (Nat.le_refl _) _)).other hP HK0.out.res.lt) (And.intro hq HK0.out.res.lt)); clear hP hq)
        | ((with_reducible refine mv_load_rowG rfl 33 _ rfl Try.underlying33 rfl ?_); refine ⟨_, _, _, rfl, HW0.out.2.1, Try.info_mvB _ _ _ _ _, ?_⟩)
        | ((with_reducible refine mv_load_rowG rfl 33 _ rfl Try.underlying33 rfl ?_); refine ⟨_, _, _, rfl, HV0.out.2.1, Try.info_mvB _ _ _ _ _, ?_⟩))
      rw [rounds_succ]
      go_wp2_with (first
        | ((with_reducible refine wp_load_box_g rfl _ rfl ?_); refine ⟨_, c, rfl, HV1.out.1.p, ?_⟩)
        | ((with_reducible refine wp_load_box_g rfl _ rfl ?_); refine ⟨_, c, rfl, HW0.out.1.p, ?_⟩)
        | (go_at_call 19; (with_reducible refine (HC1.out _).mono ?_); rintro e wc1 ⟨rfl, hbc⟩; have HK1 := Lib.hid (HW0.out.1.next hbc); clear hbc)
        | (go_at_call 17; (with_reducible refine (HS1.out _).mono ?_); rintro e wd1 ⟨rfl, hbc⟩; have HW1 := Lib.hid (And.intro (HV1.out.1.next hbc) (And.intro (HV1.out.2.1.below hbc) HV1.out.2.2)); clear hbc)
        | ((with_reducible refine wp_store_row' rfl 33 _ _ rfl ?_); refine ⟨w.heap.size + 1, 33, movC 4 tg1 0 0 true, rfl, rfl, ⟨_, HW1.out.1.res.heap, (by kernel_rfl)⟩, Try.info_mvB _ _ _ _ _, Try.one_mvB _ _ _ _ _, ?_⟩; intro W9 hP9 hq9; have HB := Lib.hid (hP9.below HW1.out.1.below (Nat.le_succ _)))
        | ((with_reducible refine wp_store_row' rfl 33 _ _ rfl ?_); refine ⟨wc1.heap.size, 33, movC 4 tg1 0 0 true, rfl, rfl, ⟨_, heap_alloc_new _ _, (by kernel_rfl)⟩, Try.info_mvB _ _ _ _ _, Try.one_mvB _ _ _ _ _, ?_⟩; intro V1 hP hq; have HV1 := Lib.hid (And.intro ((HK1.out.next ((Below.refl _ _).alloc (Nat.le_refl _) _)).other hP HK1.out.res.lt) (And.intro hq HK1.out.res.lt)); clear hP hq)
        | ((with_reducible refine mv_load_rowG rfl 33 _ rfl Try.underlying33 rfl ?_); refine ⟨_, _, _, rfl, HW1.out.2.1, Try.info_mvB _ _ _ _ _, ?_⟩)
        | ((with_reducible refine mv_load_rowG rfl 33 _ rfl Try.underlying33 rfl ?_); refine ⟨_, _, _, rfl, HV1.out.2.1, Try.info_mvB _ _ _ _ _, ?_⟩))
      rw [rounds_succ]
      go_wp2_with ((with_reducible refine wp_store_row' rfl 33 _ _ rfl ?_); refine ⟨w.heap.size + 1, 33, movC 0 0 0 0 false, rfl, rfl, ⟨_, HW1.out.1.res.heap, (by kernel_rfl)⟩, Try.info_mvB _ _ _ _ _, Try.one_mvB _ _ _ _ _, ?_⟩; intro W9 hP9 hq9; have HB := Lib.hid (hP9.below HW1.out.1.below (Nat.le_succ _)))
      exact bodyPost_ret (results_mv_tmp Try.results8 _ _ (w.heap.size + 1) 33 _ (0, 0) _ rfl hq9.heap Try.underlying33 rfl (Try.info_mvB _ _ _ _ _)) rfl ⟨rfl, HB.out⟩
    · refine ⟨4, tg1, true, true, HR1.out rfl rfl, fun _ => rfl, fun w => ?_⟩
      have h0 : MvRes w w.heap.size c ((w.alloc (.cells (posC c) 31)).alloc (.cells #[.int .i8 0, .int .i8 0, .int .u8 0, .int .u8 0, .bool false] 33)) :=
        ⟨(PosAt.new w c).alloc _, by have := RowAt.new (w.alloc (.cells (posC c) 31)) #[.int .i8 0, .int .i8 0, .int .u8 0, .int .u8 0, .bool false] 33; rwa [World.size_alloc] at this, ((Below.refl _ _).alloc (Nat.le_refl _) _).alloc (by simp) _⟩
      have c0 := h0.p.cell (i := 0) (by decide)
      rw [show pk 0 = .u8 from rfl] at c0
      have H0 := Lib.hid h0
      clear h0
      go_enter Try.func8, Try.ntmps8
      go_wp2_with (go_at_call 18; (with_reducible refine (mvgoals_any _).mono ?_); rintro e wg ⟨rfl, hbg⟩; have HG := Lib.hid (H0.out.next hbg); clear hbg)
      refine wp_loop_rounds 3 ?_
      rw [rounds_succ]
      go_wp2_with (first
        | ((with_reducible refine wp_load_box_g rfl _ rfl ?_); refine ⟨_, c, rfl, HV0.out.1.p, ?_⟩)
        | ((with_reducible refine wp_load_box_g rfl _ rfl ?_); refine ⟨_, c, rfl, HG.out.p, ?_⟩)
        | (go_at_call 19; (with_reducible refine (HC0.out _).mono ?_); rintro e wc0 ⟨rfl, hbc⟩; have HK0 := Lib.hid (HG.out.next hbc); clear hbc)
        | (go_at_call 17; (with_reducible refine (HS0.out _).mono ?_); rintro e wd0 ⟨rfl, hbc⟩; have HW0 := Lib.hid (And.intro (HV0.out.1.next hbc) (And.intro (HV0.out.2.1.below hbc) HV0.out.2.2)); clear hbc)
        | ((with_reducible refine wp_store_row' rfl 33 _ _ rfl ?_); refine ⟨w.heap.size + 1, 33, movC 4 tg0 0 0 true, rfl, rfl, ⟨_, HW0.out.1.res.heap, (by kernel_rfl)⟩, Try.info_mvB _ _ _ _ _, Try.one_mvB _ _ _ _ _, ?_⟩; intro W9 hP9 hq9; have HB := Lib.hid (hP9.below HW0.out.1.below (Nat.le_succ _)))
        | ((with_reducible refine wp_store_row' rfl 33 _ _ rfl ?_); refine ⟨wc0.heap.size, 33, movC 4 tg0 0 0 true, rfl, rfl, ⟨_, heap_alloc_new _ _, (by kernel_rfl)⟩, Try.info_mvB _ _ _ _ _, Try.one_mvB _ _ _ _ _, ?_⟩; intro V0 hP hq; have HV0 := Lib.hid (And.intro ((HK0.out.next ((Below.refl _ _).alloc (Nat.le_refl _) _)).other hP HK0.out.res.lt) (And.intro hq HK0.out.res.lt)); clear hP hq)
        | ((with_reducible refine mv_load_rowG rfl 33 _ rfl Try.underlying33 rfl ?_); refine ⟨_, _, _, rfl, HW0.out.2.1, Try.info_mvB _ _ _ _ _, ?_⟩)
        | ((with_reducible refine mv_load_rowG rfl 33 _ rfl Try.underlying33 rfl ?_); refine ⟨_, _, _, rfl, HV0.out.2.1, Try.info_mvB _ _ _ _ _, ?_⟩))
      rw [rounds_succ]
      go_wp2_with (first
        | ((with_reducible refine wp_load_box_g rfl _ rfl ?_); refine ⟨_, c, rfl, HV1.out.1.p, ?_⟩)
        | ((with_reducible refine wp_load_box_g rfl _ rfl ?_); refine ⟨_, c, rfl, HW0.out.1.p, ?_⟩)
        | (go_at_call 19; (with_reducible refine (HC1.out _).mono ?_); rintro e wc1 ⟨rfl, hbc⟩; have HK1 := Lib.hid (HW0.out.1.next hbc); clear hbc)
        | (go_at_call 17; (with_reducible refine (HS1.out _).mono ?_); rintro e wd1 ⟨rfl, hbc⟩; have HW1 := Lib.hid (And.intro (HV1.out.1.next hbc) (And.intro (HV1.out.2.1.below hbc) HV1.out.2.2)); clear hbc)
        | ((with_reducible refine wp_store_row' rfl 33 _ _ rfl ?_); refine ⟨w.heap.size + 1, 33, movC 4 tg1 0 0 true, rfl, rfl, ⟨_, HW1.out.1.res.heap, (by kernel_rfl)⟩, Try.info_mvB _ _ _ _ _, Try.one_mvB _ _ _ _ _, ?_⟩; intro W9 hP9 hq9; have HB := Lib.hid (hP9.below HW1.out.1.below (Nat.le_succ _)))
        | ((with_reducible refine wp_store_row' rfl 33 _ _ rfl ?_); refine ⟨wc1.heap.size, 33, movC 4 tg1 0 0 true, rfl, rfl, ⟨_, heap_alloc_new _ _, (by kernel_rfl)⟩, Try.info_mvB _ _ _ _ _, Try.one_mvB _ _ _ _ _, ?_⟩; intro V1 hP hq; have HV1 := Lib.hid (And.intro ((HK1.out.next ((Below.refl _ _).alloc (Nat.le_refl _) _)).other hP HK1.out.res.lt) (And.intro hq HK1.out.res.lt)); clear hP hq)
        | ((with_reducible refine mv_load_rowG rfl 33 _ rfl Try.underlying33 rfl ?_); refine ⟨_, _, _, rfl, HW1.out.2.1, Try.info_mvB _ _ _ _ _, ?_⟩)
        | ((with_reducible refine mv_load_rowG rfl 33 _ rfl Try.underlying33 rfl ?_); refine ⟨_, _, _, rfl, HV1.out.2.1, Try.info_mvB _ _ _ _ _, ?_⟩))
      exact bodyPost_ret (results_mv_tmp Try.results8 _ _ (w.heap.size + 1) 33 _ (0, 0) _ rfl hq9.heap Try.underlying33 rfl (Try.info_mvB _ _ _ _ _)) rfl ⟨rfl, HB.out⟩
  · refine ⟨4, tg0, true, true, HR0.out rfl rfl, fun _ => rfl, fun w => ?_⟩
    have h0 : MvRes w w.heap.size c ((w.alloc (.cells (posC c) 31)).alloc (.cells #[.int .i8 0, .int .i8 0, .int .u8 0, .int .u8 0, .bool false] 33)) :=
      ⟨(PosAt.new w c).alloc _, by have := RowAt.new (w.alloc (.cells (posC c) 31)) #[.int .i8 0, .int .i8 0, .int .u8 0, .int .u8 0, .bool false] 33; rwa [World.size_alloc] at this, ((Below.refl _ _).alloc (Nat.le_refl _) _).alloc (by simp) _⟩
    have c0 := h0.p.cell (i := 0) (by decide)
    rw [show pk 0 = .u8 from rfl] at c0
    have H0 := Lib.hid h0
    clear h0
    go_enter Try.func8, Try.ntmps8
    go_wp2_with (go_at_call 18; (with_reducible refine (mvgoals_any _).mono ?_); rintro e wg ⟨rfl, hbg⟩; have HG := Lib.hid (H0.out.next hbg); clear hbg)
    refine wp_loop_rounds 3 ?_
    rw [rounds_succ]
    go_wp2_with (first
      | ((with_reducible refine wp_load_box_g rfl _ rfl ?_); refine ⟨_, c, rfl, HV0.out.1.p, ?_⟩)
      | ((with_reducible refine wp_load_box_g rfl _ rfl ?_); refine ⟨_, c, rfl, HG.out.p, ?_⟩)
      | (go_at_call 19; (with_reducible refine (HC0.out _).mono ?_); rintro e wc0 ⟨rfl, hbc⟩; have HK0 := Lib.hid (HG.out.next hbc); clear hbc)
      | (go_at_call 17; (with_reducible refine (HS0.out _).mono ?_); rintro e wd0 ⟨rfl, hbc⟩; have HW0 := Lib.hid (And.intro (HV0.out.1.next hbc) (And.intro (HV0.out.2.1.below hbc) HV0.out.2.2)); clear hbc)
      | ((with_reducible refine wp_store_row' rfl 33 _ _ rfl ?_); refine ⟨w.heap.size + 1, 33, movC 4 tg0 0 0 true, rfl, rfl, ⟨_, HW0.out.1.res.heap, (by kernel_rfl)⟩, Try.info_mvB _ _ _ _ _, Try.one_mvB _ _ _ _ _, ?_⟩; intro W9 hP9 hq9; have HB := Lib.hid (hP9.below HW0.out.1.below (Nat.le_succ _)))
      | ((with_reducible refine wp_store_row' rfl 33 _ _ rfl ?_); refine ⟨wc0.heap.size, 33, movC 4 tg0 0 0 true, rfl, rfl, ⟨_, heap_alloc_new _ _, (by kernel_rfl)⟩, Try.info_mvB _ _ _ _ _, Try.one_mvB _ _ _ _ _, ?_⟩; intro V0 hP hq; have HV0 := Lib.hid (And.intro ((HK0.out.next ((Below.refl _ _).alloc (Nat.le_refl _) _)).other hP HK0.out.res.lt) (And.intro hq HK0.out.res.lt)); clear hP hq)
      | ((with_reducible refine mv_load_rowG rfl 33 _ rfl Try.underlying33 rfl ?_); refine ⟨_, _, _, rfl, HW0.out.2.1, Try.info_mvB _ _ _ _ _, ?_⟩)
      | ((with_reducible refine mv_load_rowG rfl 33 _ rfl Try.underlying33 rfl ?_); refine ⟨_, _, _, rfl, HV0.out.2.1, Try.info_mvB _ _ _ _ _, ?_⟩))
    exact bodyPost_ret (results_mv_tmp Try.results8 _ _ (w.heap.size + 1) 33 _ (0, 0) _ rfl hq9.heap Try.underlying33 rfl (Try.info_mvB _ _ _ _ _)) rfl ⟨rfl, HB.out⟩

set_option maxRecDepth 100000 in
set_option maxHeartbeats 4000000 in
theorem mvrook_o1 (c : Nat → Int) (s : ByteArray) (hk : N.known c) (hc0 : c 0 ≠ 1) (ht : c 78 = 1) : ∃ (f g : Int) (z ok : Bool), N.RookR c s f g ok ∧ (ok = true → z = true) ∧ ∀ w, Calls Try.prog 8 #[.agg (posC c), .string s] w fun e w' => e = .returned (.tuple #[.agg (movC f g 0 0 z), .bool ok]) ∧ Below w.heap.size w w' := by
  have d0 : (c 0 == 1) = false := by simpa using hc0
  have HC0 : Hid (∀ W, Calls Try.prog 19 #[.agg (posC c), .int .i64 0] W fun e w' => e = .returned (.tuple #[.agg (movC 60 (N.tg c 1 0) 0 0 true), .bool (N.cok c 0)]) ∧ Below W.heap.size W w') := Lib.hid (fun W => mvcastling_10 c W ht)
  have HC1 : Hid (∀ W, Calls Try.prog 19 #[.agg (posC c), .int .i64 1] W fun e w' => e = .returned (.tuple #[.agg (movC 60 (N.tg c 1 1) 0 0 true), .bool (N.cok c 1)]) ∧ Below W.heap.size W w') := Lib.hid (fun W => mvcastling_11 c W ht)
  obtain ⟨T0, e0, he0, hS0, hR0, hN0⟩ := side_fix c 1 0 s hk hc0 ht (by decide)
  obtain ⟨T1, e1, he1, hS1, hR1, hN1⟩ := side_fix c 1 1 s hk hc0 ht (by decide)
  have HN := Lib.hid (fun (h : (N.cok c 0 && e0) = false) (h' : (N.cok c 1 && e1) = false) => N.rookO_none (s := s) hc0 (t := 1) ht (fun k hk2 hs => by
    rcases (show k = 0 ∨ k = 1 by omega) with rfl | rfl
    · exact hN0 h hs
    · exact hN1 h' hs))
  have HS0 : Hid (N.cok c 0 = true → ∀ W, Calls Try.prog 17 #[.agg (posC c), .agg (movC 60 (N.tg c 1 0) 0 0 true)] W fun e w' => e = .returned (.string T0) ∧ Below W.heap.size W w') := Lib.hid hS0
  have HS1 : Hid (N.cok c 1 = true → ∀ W, Calls Try.prog 17 #[.agg (posC c), .agg (movC 60 (N.tg c 1 1) 0 0 true)] W fun e w' => e = .returned (.string T1) ∧ Below W.heap.size W w') := Lib.hid hS1
  have HR0 : Hid (N.cok c 0 = true → e0 = true → N.RookR c s 60 (N.tg c 1 0) true) := Lib.hid hR0
  have HR1 : Hid (N.cok c 1 = true → e1 = true → N.RookR c s 60 (N.tg c 1 1) true) := Lib.hid hR1
  clear hS0 hR0 hN0 hS1 hR1 hN1 ht hc0 hk
  obtain ⟨tg0, h1⟩ : ∃ x, N.tg c 1 0 = x := ⟨_, rfl⟩
  obtain ⟨tg1, h2⟩ : ∃ x, N.tg c 1 1 = x := ⟨_, rfl⟩
  obtain ⟨b0, h3⟩ : ∃ x, N.cok c 0 = x := ⟨_, rfl⟩
  obtain ⟨b1, h4⟩ : ∃ x, N.cok c 1 = x := ⟨_, rfl⟩
  rw [h1, h3] at HC0 HS0 HR0
  rw [h2, h4] at HC1 HS1 HR1
  rw [h3, h4] at HN
  clear h1 h2 h3 h4
  cases b0
  · cases b1
    · refine ⟨0, 0, false, false, HN.out (by first | rfl | simp) (by first | rfl | simp), nofun, fun w => ?_⟩
      have h0 : MvRes w w.heap.size c ((w.alloc (.cells (posC c) 31)).alloc (.cells #[.int .i8 0, .int .i8 0, .int .u8 0, .int .u8 0, .bool false] 33)) :=
        ⟨(PosAt.new w c).alloc _, by have := RowAt.new (w.alloc (.cells (posC c) 31)) #[.int .i8 0, .int .i8 0, .int .u8 0, .int .u8 0, .bool false] 33; rwa [World.size_alloc] at this, ((Below.refl _ _).alloc (Nat.le_refl _) _).alloc (by simp) _⟩
      have c0 := h0.p.cell (i := 0) (by decide)
      rw [show pk 0 = .u8 from rfl] at c0
      have H0 := Lib.hid h0
      clear h0
      go_enter Try.func8, Try.ntmps8
      go_wp2_with (go_at_call 18; (with_reducible refine (mvgoals_any _).mono ?_); rintro e wg ⟨rfl, hbg⟩; have HG := Lib.hid (H0.out.next hbg); clear hbg)
      refine wp_loop_rounds 3 ?_
      rw [rounds_succ]
      go_wp2_with (first
        | ((with_reducible refine wp_load_box_g rfl _ rfl ?_); refine ⟨_, c, rfl, HV0.out.1.p, ?_⟩)
        | ((with_reducible refine wp_load_box_g rfl _ rfl ?_); refine ⟨_, c, rfl, HG.out.p, ?_⟩)
        | (go_at_call 19; (with_reducible refine (HC0.out _).mono ?_); rintro e wc0 ⟨rfl, hbc⟩; have HK0 := Lib.hid (HG.out.next hbc); clear hbc)
        | (go_at_call 17; (with_reducible refine (HS0.out _).mono ?_); rintro e wd0 ⟨rfl, hbc⟩; have HW0 := Lib.hid (And.intro (HV0.out.1.next hbc) (And.intro (HV0.out.2.1.below hbc) HV0.out.2.2)); clear hbc)
        | ((with_reducible refine wp_store_row' rfl 33 _ _ rfl ?_); refine ⟨w.heap.size + 1, 33, movC 60 tg0 0 0 true, rfl, rfl, ⟨_, HW0.out.1.res.heap, (by kernel_rfl)⟩, Try.info_mvB _ _ _ _ _, Try.one_mvB _ _ _ _ _, ?_⟩; intro W9 hP9 hq9; have HB := Lib.hid (hP9.below HW0.out.1.below (Nat.le_succ _)))
        | ((with_reducible refine wp_store_row' rfl 33 _ _ rfl ?_); refine ⟨wc0.heap.size, 33, movC 60 tg0 0 0 true, rfl, rfl, ⟨_, heap_alloc_new _ _, (by kernel_rfl)⟩, Try.info_mvB _ _ _ _ _, Try.one_mvB _ _ _ _ _, ?_⟩; intro V0 hP hq; have HV0 := Lib.hid (And.intro ((HK0.out.next ((Below.refl _ _).alloc (Nat.le_refl _) _)).other hP HK0.out.res.lt) (And.intro hq HK0.out.res.lt)); clear hP hq)
        | ((with_reducible refine mv_load_rowG rfl 33 _ rfl Try.underlying33 rfl ?_); refine ⟨_, _, _, rfl, HW0.out.2.1, Try.info_mvB _ _ _ _ _, ?_⟩)
        | ((with_reducible refine mv_load_rowG rfl 33 _ rfl Try.underlying33 rfl ?_); refine ⟨_, _, _, rfl, HV0.out.2.1, Try.info_mvB _ _ _ _ _, ?_⟩))
      rw [rounds_succ]
      go_wp2_with (first
        | ((with_reducible refine wp_load_box_g rfl _ rfl ?_); refine ⟨_, c, rfl, HV1.out.1.p, ?_⟩)
        | ((with_reducible refine wp_load_box_g rfl _ rfl ?_); refine ⟨_, c, rfl, HV0.out.1.p, ?_⟩)
        | (go_at_call 19; (with_reducible refine (HC1.out _).mono ?_); rintro e wc1 ⟨rfl, hbc⟩; have HK1 := Lib.hid (HV0.out.1.next hbc); clear hbc)
        | (go_at_call 17; (with_reducible refine (HS1.out _).mono ?_); rintro e wd1 ⟨rfl, hbc⟩; have HW1 := Lib.hid (And.intro (HV1.out.1.next hbc) (And.intro (HV1.out.2.1.below hbc) HV1.out.2.2)); clear hbc)
        | ((with_reducible refine wp_store_row' rfl 33 _ _ rfl ?_); refine ⟨w.heap.size + 1, 33, movC 60 tg1 0 0 true, rfl, rfl, ⟨_, HW1.out.1.res.heap, (by kernel_rfl)⟩, Try.info_mvB _ _ _ _ _, Try.one_mvB _ _ _ _ _, ?_⟩; intro W9 hP9 hq9; have HB := Lib.hid (hP9.below HW1.out.1.below (Nat.le_succ _)))
        | ((with_reducible refine wp_store_row' rfl 33 _ _ rfl ?_); refine ⟨wc1.heap.size, 33, movC 60 tg1 0 0 true, rfl, rfl, ⟨_, heap_alloc_new _ _, (by kernel_rfl)⟩, Try.info_mvB _ _ _ _ _, Try.one_mvB _ _ _ _ _, ?_⟩; intro V1 hP hq; have HV1 := Lib.hid (And.intro ((HK1.out.next ((Below.refl _ _).alloc (Nat.le_refl _) _)).other hP HK1.out.res.lt) (And.intro hq HK1.out.res.lt)); clear hP hq)
        | ((with_reducible refine mv_load_rowG rfl 33 _ rfl Try.underlying33 rfl ?_); refine ⟨_, _, _, rfl, HW1.out.2.1, Try.info_mvB _ _ _ _ _, ?_⟩)
        | ((with_reducible refine mv_load_rowG rfl 33 _ rfl Try.underlying33 rfl ?_); refine ⟨_, _, _, rfl, HV1.out.2.1, Try.info_mvB _ _ _ _ _, ?_⟩))
      rw [rounds_succ]
      go_wp2_with ((with_reducible refine wp_store_row' rfl 33 _ _ rfl ?_); refine ⟨w.heap.size + 1, 33, movC 0 0 0 0 false, rfl, rfl, ⟨_, HV1.out.1.res.heap, (by kernel_rfl)⟩, Try.info_mvB _ _ _ _ _, Try.one_mvB _ _ _ _ _, ?_⟩; intro W9 hP9 hq9; have HB := Lib.hid (hP9.below HV1.out.1.below (Nat.le_succ _)))
      exact bodyPost_ret (results_mv_tmp Try.results8 _ _ (w.heap.size + 1) 33 _ (0, 0) _ rfl hq9.heap Try.underlying33 rfl (Try.info_mvB _ _ _ _ _)) rfl ⟨rfl, HB.out⟩
    replace HS1 := Lib.hid (HS1.out rfl)
    cases e1
    · refine ⟨0, 0, false, false, HN.out (by first | rfl | simp) (by first | rfl | simp), nofun, fun w => ?_⟩
      have h0 : MvRes w w.heap.size c ((w.alloc (.cells (posC c) 31)).alloc (.cells #[.int .i8 0, .int .i8 0, .int .u8 0, .int .u8 0, .bool false] 33)) :=
        ⟨(PosAt.new w c).alloc _, by have := RowAt.new (w.alloc (.cells (posC c) 31)) #[.int .i8 0, .int .i8 0, .int .u8 0, .int .u8 0, .bool false] 33; rwa [World.size_alloc] at this, ((Below.refl _ _).alloc (Nat.le_refl _) _).alloc (by simp) _⟩
      have c0 := h0.p.cell (i := 0) (by decide)
      rw [show pk 0 = .u8 from rfl] at c0
      have H0 := Lib.hid h0
      clear h0
      go_enter Try.func8, Try.ntmps8
      go_wp2_with (go_at_call 18; (with_reducible refine (mvgoals_any _).mono ?_); rintro e wg ⟨rfl, hbg⟩; have HG := Lib.hid (H0.out.next hbg); clear hbg)
      refine wp_loop_rounds 3 ?_
      rw [rounds_succ]
      go_wp2_with (first
        | ((with_reducible refine wp_load_box_g rfl _ rfl ?_); refine ⟨_, c, rfl, HV0.out.1.p, ?_⟩)
        | ((with_reducible refine wp_load_box_g rfl _ rfl ?_); refine ⟨_, c, rfl, HG.out.p, ?_⟩)
        | (go_at_call 19; (with_reducible refine (HC0.out _).mono ?_); rintro e wc0 ⟨rfl, hbc⟩; have HK0 := Lib.hid (HG.out.next hbc); clear hbc)
        | (go_at_call 17; (with_reducible refine (HS0.out _).mono ?_); rintro e wd0 ⟨rfl, hbc⟩; have HW0 := Lib.hid (And.intro (HV0.out.1.next hbc) (And.intro (HV0.out.2.1.below hbc) HV0.out.2.2)); clear hbc)
        | ((with_reducible refine wp_store_row' rfl 33 _ _ rfl ?_); refine ⟨w.heap.size + 1, 33, movC 60 tg0 0 0 true, rfl, rfl, ⟨_, HW0.out.1.res.heap, (by kernel_rfl)⟩, Try.info_mvB _ _ _ _ _, Try.one_mvB _ _ _ _ _, ?_⟩; intro W9 hP9 hq9; have HB := Lib.hid (hP9.below HW0.out.1.below (Nat.le_succ _)))
        | ((with_reducible refine wp_store_row' rfl 33 _ _ rfl ?_); refine ⟨wc0.heap.size, 33, movC 60 tg0 0 0 true, rfl, rfl, ⟨_, heap_alloc_new _ _, (by kernel_rfl)⟩, Try.info_mvB _ _ _ _ _, Try.one_mvB _ _ _ _ _, ?_⟩; intro V0 hP hq; have HV0 := Lib.hid (And.intro ((HK0.out.next ((Below.refl _ _).alloc (Nat.le_refl _) _)).other hP HK0.out.res.lt) (And.intro hq HK0.out.res.lt)); clear hP hq)
        | ((with_reducible refine mv_load_rowG rfl 33 _ rfl Try.underlying33 rfl ?_); refine ⟨_, _, _, rfl, HW0.out.2.1, Try.info_mvB _ _ _ _ _, ?_⟩)
        | ((with_reducible refine mv_load_rowG rfl 33 _ rfl Try.underlying33 rfl ?_); refine ⟨_, _, _, rfl, HV0.out.2.1, Try.info_mvB _ _ _ _ _, ?_⟩))
      rw [rounds_succ]
      go_wp2_with (first
        | ((with_reducible refine wp_load_box_g rfl _ rfl ?_); refine ⟨_, c, rfl, HV1.out.1.p, ?_⟩)
        | ((with_reducible refine wp_load_box_g rfl _ rfl ?_); refine ⟨_, c, rfl, HV0.out.1.p, ?_⟩)
        | (go_at_call 19; (with_reducible refine (HC1.out _).mono ?_); rintro e wc1 ⟨rfl, hbc⟩; have HK1 := Lib.hid (HV0.out.1.next hbc); clear hbc)
        | (go_at_call 17; (with_reducible refine (HS1.out _).mono ?_); rintro e wd1 ⟨rfl, hbc⟩; have HW1 := Lib.hid (And.intro (HV1.out.1.next hbc) (And.intro (HV1.out.2.1.below hbc) HV1.out.2.2)); clear hbc)
        | ((with_reducible refine wp_store_row' rfl 33 _ _ rfl ?_); refine ⟨w.heap.size + 1, 33, movC 60 tg1 0 0 true, rfl, rfl, ⟨_, HW1.out.1.res.heap, (by kernel_rfl)⟩, Try.info_mvB _ _ _ _ _, Try.one_mvB _ _ _ _ _, ?_⟩; intro W9 hP9 hq9; have HB := Lib.hid (hP9.below HW1.out.1.below (Nat.le_succ _)))
        | ((with_reducible refine wp_store_row' rfl 33 _ _ rfl ?_); refine ⟨wc1.heap.size, 33, movC 60 tg1 0 0 true, rfl, rfl, ⟨_, heap_alloc_new _ _, (by kernel_rfl)⟩, Try.info_mvB _ _ _ _ _, Try.one_mvB _ _ _ _ _, ?_⟩; intro V1 hP hq; have HV1 := Lib.hid (And.intro ((HK1.out.next ((Below.refl _ _).alloc (Nat.le_refl _) _)).other hP HK1.out.res.lt) (And.intro hq HK1.out.res.lt)); clear hP hq)
        | ((with_reducible refine mv_load_rowG rfl 33 _ rfl Try.underlying33 rfl ?_); refine ⟨_, _, _, rfl, HW1.out.2.1, Try.info_mvB _ _ _ _ _, ?_⟩)
        | ((with_reducible refine mv_load_rowG rfl 33 _ rfl Try.underlying33 rfl ?_); refine ⟨_, _, _, rfl, HV1.out.2.1, Try.info_mvB _ _ _ _ _, ?_⟩))
      rw [rounds_succ]
      go_wp2_with ((with_reducible refine wp_store_row' rfl 33 _ _ rfl ?_); refine ⟨w.heap.size + 1, 33, movC 0 0 0 0 false, rfl, rfl, ⟨_, HW1.out.1.res.heap, (by kernel_rfl)⟩, Try.info_mvB _ _ _ _ _, Try.one_mvB _ _ _ _ _, ?_⟩; intro W9 hP9 hq9; have HB := Lib.hid (hP9.below HW1.out.1.below (Nat.le_succ _)))
      exact bodyPost_ret (results_mv_tmp Try.results8 _ _ (w.heap.size + 1) 33 _ (0, 0) _ rfl hq9.heap Try.underlying33 rfl (Try.info_mvB _ _ _ _ _)) rfl ⟨rfl, HB.out⟩
    · refine ⟨60, tg1, true, true, HR1.out rfl rfl, fun _ => rfl, fun w => ?_⟩
      have h0 : MvRes w w.heap.size c ((w.alloc (.cells (posC c) 31)).alloc (.cells #[.int .i8 0, .int .i8 0, .int .u8 0, .int .u8 0, .bool false] 33)) :=
        ⟨(PosAt.new w c).alloc _, by have := RowAt.new (w.alloc (.cells (posC c) 31)) #[.int .i8 0, .int .i8 0, .int .u8 0, .int .u8 0, .bool false] 33; rwa [World.size_alloc] at this, ((Below.refl _ _).alloc (Nat.le_refl _) _).alloc (by simp) _⟩
      have c0 := h0.p.cell (i := 0) (by decide)
      rw [show pk 0 = .u8 from rfl] at c0
      have H0 := Lib.hid h0
      clear h0
      go_enter Try.func8, Try.ntmps8
      go_wp2_with (go_at_call 18; (with_reducible refine (mvgoals_any _).mono ?_); rintro e wg ⟨rfl, hbg⟩; have HG := Lib.hid (H0.out.next hbg); clear hbg)
      refine wp_loop_rounds 3 ?_
      rw [rounds_succ]
      go_wp2_with (first
        | ((with_reducible refine wp_load_box_g rfl _ rfl ?_); refine ⟨_, c, rfl, HV0.out.1.p, ?_⟩)
        | ((with_reducible refine wp_load_box_g rfl _ rfl ?_); refine ⟨_, c, rfl, HG.out.p, ?_⟩)
        | (go_at_call 19; (with_reducible refine (HC0.out _).mono ?_); rintro e wc0 ⟨rfl, hbc⟩; have HK0 := Lib.hid (HG.out.next hbc); clear hbc)
        | (go_at_call 17; (with_reducible refine (HS0.out _).mono ?_); rintro e wd0 ⟨rfl, hbc⟩; have HW0 := Lib.hid (And.intro (HV0.out.1.next hbc) (And.intro (HV0.out.2.1.below hbc) HV0.out.2.2)); clear hbc)
        | ((with_reducible refine wp_store_row' rfl 33 _ _ rfl ?_); refine ⟨w.heap.size + 1, 33, movC 60 tg0 0 0 true, rfl, rfl, ⟨_, HW0.out.1.res.heap, (by kernel_rfl)⟩, Try.info_mvB _ _ _ _ _, Try.one_mvB _ _ _ _ _, ?_⟩; intro W9 hP9 hq9; have HB := Lib.hid (hP9.below HW0.out.1.below (Nat.le_succ _)))
        | ((with_reducible refine wp_store_row' rfl 33 _ _ rfl ?_); refine ⟨wc0.heap.size, 33, movC 60 tg0 0 0 true, rfl, rfl, ⟨_, heap_alloc_new _ _, (by kernel_rfl)⟩, Try.info_mvB _ _ _ _ _, Try.one_mvB _ _ _ _ _, ?_⟩; intro V0 hP hq; have HV0 := Lib.hid (And.intro ((HK0.out.next ((Below.refl _ _).alloc (Nat.le_refl _) _)).other hP HK0.out.res.lt) (And.intro hq HK0.out.res.lt)); clear hP hq)
        | ((with_reducible refine mv_load_rowG rfl 33 _ rfl Try.underlying33 rfl ?_); refine ⟨_, _, _, rfl, HW0.out.2.1, Try.info_mvB _ _ _ _ _, ?_⟩)
        | ((with_reducible refine mv_load_rowG rfl 33 _ rfl Try.underlying33 rfl ?_); refine ⟨_, _, _, rfl, HV0.out.2.1, Try.info_mvB _ _ _ _ _, ?_⟩))
      rw [rounds_succ]
      go_wp2_with (first
        | ((with_reducible refine wp_load_box_g rfl _ rfl ?_); refine ⟨_, c, rfl, HV1.out.1.p, ?_⟩)
        | ((with_reducible refine wp_load_box_g rfl _ rfl ?_); refine ⟨_, c, rfl, HV0.out.1.p, ?_⟩)
        | (go_at_call 19; (with_reducible refine (HC1.out _).mono ?_); rintro e wc1 ⟨rfl, hbc⟩; have HK1 := Lib.hid (HV0.out.1.next hbc); clear hbc)
        | (go_at_call 17; (with_reducible refine (HS1.out _).mono ?_); rintro e wd1 ⟨rfl, hbc⟩; have HW1 := Lib.hid (And.intro (HV1.out.1.next hbc) (And.intro (HV1.out.2.1.below hbc) HV1.out.2.2)); clear hbc)
        | ((with_reducible refine wp_store_row' rfl 33 _ _ rfl ?_); refine ⟨w.heap.size + 1, 33, movC 60 tg1 0 0 true, rfl, rfl, ⟨_, HW1.out.1.res.heap, (by kernel_rfl)⟩, Try.info_mvB _ _ _ _ _, Try.one_mvB _ _ _ _ _, ?_⟩; intro W9 hP9 hq9; have HB := Lib.hid (hP9.below HW1.out.1.below (Nat.le_succ _)))
        | ((with_reducible refine wp_store_row' rfl 33 _ _ rfl ?_); refine ⟨wc1.heap.size, 33, movC 60 tg1 0 0 true, rfl, rfl, ⟨_, heap_alloc_new _ _, (by kernel_rfl)⟩, Try.info_mvB _ _ _ _ _, Try.one_mvB _ _ _ _ _, ?_⟩; intro V1 hP hq; have HV1 := Lib.hid (And.intro ((HK1.out.next ((Below.refl _ _).alloc (Nat.le_refl _) _)).other hP HK1.out.res.lt) (And.intro hq HK1.out.res.lt)); clear hP hq)
        | ((with_reducible refine mv_load_rowG rfl 33 _ rfl Try.underlying33 rfl ?_); refine ⟨_, _, _, rfl, HW1.out.2.1, Try.info_mvB _ _ _ _ _, ?_⟩)
        | ((with_reducible refine mv_load_rowG rfl 33 _ rfl Try.underlying33 rfl ?_); refine ⟨_, _, _, rfl, HV1.out.2.1, Try.info_mvB _ _ _ _ _, ?_⟩))
      exact bodyPost_ret (results_mv_tmp Try.results8 _ _ (w.heap.size + 1) 33 _ (0, 0) _ rfl hq9.heap Try.underlying33 rfl (Try.info_mvB _ _ _ _ _)) rfl ⟨rfl, HB.out⟩
  replace HS0 := Lib.hid (HS0.out rfl)
  cases e0
  · cases b1
    · refine ⟨0, 0, false, false, HN.out (by first | rfl | simp) (by first | rfl | simp), nofun, fun w => ?_⟩
      have h0 : MvRes w w.heap.size c ((w.alloc (.cells (posC c) 31)).alloc (.cells #[.int .i8 0, .int .i8 0, .int .u8 0, .int .u8 0, .bool false] 33)) :=
        ⟨(PosAt.new w c).alloc _, by have := RowAt.new (w.alloc (.cells (posC c) 31)) #[.int .i8 0, .int .i8 0, .int .u8 0, .int .u8 0, .bool false] 33; rwa [World.size_alloc] at this, ((Below.refl _ _).alloc (Nat.le_refl _) _).alloc (by simp) _⟩
      have c0 := h0.p.cell (i := 0) (by decide)
      rw [show pk 0 = .u8 from rfl] at c0
      have H0 := Lib.hid h0
      clear h0
      go_enter Try.func8, Try.ntmps8
      go_wp2_with (go_at_call 18; (with_reducible refine (mvgoals_any _).mono ?_); rintro e wg ⟨rfl, hbg⟩; have HG := Lib.hid (H0.out.next hbg); clear hbg)
      refine wp_loop_rounds 3 ?_
      rw [rounds_succ]
      go_wp2_with (first
        | ((with_reducible refine wp_load_box_g rfl _ rfl ?_); refine ⟨_, c, rfl, HV0.out.1.p, ?_⟩)
        | ((with_reducible refine wp_load_box_g rfl _ rfl ?_); refine ⟨_, c, rfl, HG.out.p, ?_⟩)
        | (go_at_call 19; (with_reducible refine (HC0.out _).mono ?_); rintro e wc0 ⟨rfl, hbc⟩; have HK0 := Lib.hid (HG.out.next hbc); clear hbc)
        | (go_at_call 17; (with_reducible refine (HS0.out _).mono ?_); rintro e wd0 ⟨rfl, hbc⟩; have HW0 := Lib.hid (And.intro (HV0.out.1.next hbc) (And.intro (HV0.out.2.1.below hbc) HV0.out.2.2)); clear hbc)
        | ((with_reducible refine wp_store_row' rfl 33 _ _ rfl ?_); refine ⟨w.heap.size + 1, 33, movC 60 tg0 0 0 true, rfl, rfl, ⟨_, HW0.out.1.res.heap, (by kernel_rfl)⟩, Try.info_mvB _ _ _ _ _, Try.one_mvB _ _ _ _ _, ?_⟩; intro W9 hP9 hq9; have HB := Lib.hid (hP9.below HW0.out.1.below (Nat.le_succ _)))
        | ((with_reducible refine wp_store_row' rfl 33 _ _ rfl ?_); refine ⟨wc0.heap.size, 33, movC 60 tg0 0 0 true, rfl, rfl, ⟨_, heap_alloc_new _ _, (by kernel_rfl)⟩, Try.info_mvB _ _ _ _ _, Try.one_mvB _ _ _ _ _, ?_⟩; intro V0 hP hq; have HV0 := Lib.hid (And.intro ((HK0.out.next ((Below.refl _ _).alloc (Nat.le_refl _) _)).other hP HK0.out.res.lt) (And.intro hq HK0.out.res.lt)); clear hP hq)
        | ((with_reducible refine mv_load_rowG rfl 33 _ rfl Try.underlying33 rfl ?_); refine ⟨_, _, _, rfl, HW0.out.2.1, Try.info_mvB _ _ _ _ _, ?_⟩)
        | ((with_reducible refine mv_load_rowG rfl 33 _ rfl Try.underlying33 rfl ?_); refine ⟨_, _, _, rfl, HV0.out.2.1, Try.info_mvB _ _ _ _ _, ?_⟩))
      rw [rounds_succ]
      go_wp2_with (first
        | ((with_reducible refine wp_load_box_g rfl _ rfl ?_); refine ⟨_, c, rfl, HV1.out.1.p, ?_⟩)
        | ((with_reducible refine wp_load_box_g rfl _ rfl ?_); refine ⟨_, c, rfl, HW0.out.1.p, ?_⟩)
        | (go_at_call 19; (with_reducible refine (HC1.out _).mono ?_); rintro e wc1 ⟨rfl, hbc⟩; have HK1 := Lib.hid (HW0.out.1.next hbc); clear hbc)
        | (go_at_call 17; (with_reducible refine (HS1.out _).mono ?_); rintro e wd1 ⟨rfl, hbc⟩; have HW1 := Lib.hid (And.intro (HV1.out.1.next hbc) (And.intro (HV1.out.2.1.below hbc) HV1.out.2.2)); clear hbc)
        | ((with_reducible refine wp_store_row' rfl 33 _ _ rfl ?_); refine ⟨w.heap.size + 1, 33, movC 60 tg1 0 0 true, rfl, rfl, ⟨_, HW1.out.1.res.heap, (by kernel_rfl)⟩, Try.info_mvB _ _ _ _ _, Try.one_mvB _ _ _ _ _, ?_⟩; intro W9 hP9 hq9; have HB := Lib.hid (hP9.below HW1.out.1.below (Nat.le_succ _)))
        | ((with_reducible refine wp_store_row' rfl 33 _ _ rfl ?_); refine ⟨wc1.heap.size, 33, movC 60 tg1 0 0 true, rfl, rfl, ⟨_, heap_alloc_new _ _, (by kernel_rfl)⟩, Try.info_mvB _ _ _ _ _, Try.one_mvB _ _ _ _ _, ?_⟩; intro V1 hP hq; have HV1 := Lib.hid (And.intro ((HK1.out.next ((Below.refl _ _).alloc (Nat.le_refl _) _)).other hP HK1.out.res.lt) (And.intro hq HK1.out.res.lt)); clear hP hq)
        | ((with_reducible refine mv_load_rowG rfl 33 _ rfl Try.underlying33 rfl ?_); refine ⟨_, _, _, rfl, HW1.out.2.1, Try.info_mvB _ _ _ _ _, ?_⟩)
        | ((with_reducible refine mv_load_rowG rfl 33 _ rfl Try.underlying33 rfl ?_); refine ⟨_, _, _, rfl, HV1.out.2.1, Try.info_mvB _ _ _ _ _, ?_⟩))
      rw [rounds_succ]
      go_wp2_with ((with_reducible refine wp_store_row' rfl 33 _ _ rfl ?_); refine ⟨w.heap.size + 1, 33, movC 0 0 0 0 false, rfl, rfl, ⟨_, HV1.out.1.res.heap, (by kernel_rfl)⟩, Try.info_mvB _ _ _ _ _, Try.one_mvB _ _ _ _ _, ?_⟩; intro W9 hP9 hq9; have HB := Lib.hid (hP9.below HV1.out.1.below (Nat.le_succ _)))
      exact bodyPost_ret (results_mv_tmp Try.results8 _ _ (w.heap.size + 1) 33 _ (0, 0) _ rfl hq9.heap Try.underlying33 rfl (Try.info_mvB _ _ _ _ _)) rfl ⟨rfl, HB.out⟩
    replace HS1 := Lib.hid (HS1.out rfl)
    cases e1
    · refine ⟨0, 0, false, false, HN.out (by first | rfl | simp) (by first | rfl | simp), nofun, fun w => ?_⟩
      have h0 : MvRes w w.heap.size c ((w.alloc (.cells (posC c) 31)).alloc (.cells #[.int .i8 0, .int .i8 0, .int .u8 0, .int .u8 0, .bool false] 33)) :=
        ⟨(PosAt.new w c).alloc _, by have := RowAt.new (w.alloc (.cells (posC c) 31)) #[.int .i8 0, .int .i8 0, .int .u8 0, .int .u8 0, .bool false] 33; rwa [World.size_alloc] at this, ((Below.refl _ _).alloc (Nat.le_refl _) _).alloc (by simp) _⟩
      have c0 := h0.p.cell (i := 0) (by decide)
      rw [show pk 0 = .u8 from rfl] at c0
      have H0 := Lib.hid h0
      clear h0
      go_enter Try.func8, Try.ntmps8
      go_wp2_with (go_at_call 18; (with_reducible refine (mvgoals_any _).mono ?_); rintro e wg ⟨rfl, hbg⟩; have HG := Lib.hid (H0.out.next hbg); clear hbg)
      refine wp_loop_rounds 3 ?_
      rw [rounds_succ]
      go_wp2_with (first
        | ((with_reducible refine wp_load_box_g rfl _ rfl ?_); refine ⟨_, c, rfl, HV0.out.1.p, ?_⟩)
        | ((with_reducible refine wp_load_box_g rfl _ rfl ?_); refine ⟨_, c, rfl, HG.out.p, ?_⟩)
        | (go_at_call 19; (with_reducible refine (HC0.out _).mono ?_); rintro e wc0 ⟨rfl, hbc⟩; have HK0 := Lib.hid (HG.out.next hbc); clear hbc)
        | (go_at_call 17; (with_reducible refine (HS0.out _).mono ?_); rintro e wd0 ⟨rfl, hbc⟩; have HW0 := Lib.hid (And.intro (HV0.out.1.next hbc) (And.intro (HV0.out.2.1.below hbc) HV0.out.2.2)); clear hbc)
        | ((with_reducible refine wp_store_row' rfl 33 _ _ rfl ?_); refine ⟨w.heap.size + 1, 33, movC 60 tg0 0 0 true, rfl, rfl, ⟨_, HW0.out.1.res.heap, (by kernel_rfl)⟩, Try.info_mvB _ _ _ _ _, Try.one_mvB _ _ _ _ _, ?_⟩; intro W9 hP9 hq9; have HB := Lib.hid (hP9.below HW0.out.1.below (Nat.le_succ _)))
        | ((with_reducible refine wp_store_row' rfl 33 _ _ rfl ?_); refine ⟨wc0.heap.size, 33, movC 60 tg0 0 0 true, rfl, rfl, ⟨_, heap_alloc_new _ _, (by kernel_rfl)⟩, Try.info_mvB _ _ _ _ _, Try.one_mvB _ _ _ _ _, ?_⟩; intro V0 hP hq; have HV0 := Lib.hid (And.intro ((HK0.out.next ((Below.refl _ _).alloc (Nat.le_refl _) _)).other hP HK0.out.res.lt) (And.intro hq HK0.out.res.lt)); clear hP hq)
        | ((with_reducible refine mv_load_rowG rfl 33 _ rfl Try.underlying33 rfl ?_); refine ⟨_, _, _, rfl, HW0.out.2.1, Try.info_mvB _ _ _ _ _, ?_⟩)
        | ((with_reducible refine mv_load_rowG rfl 33 _ rfl Try.underlying33 rfl ?_); refine ⟨_, _, _, rfl, HV0.out.2.1, Try.info_mvB _ _ _ _ _, ?_⟩))
      rw [rounds_succ]
      go_wp2_with (first
        | ((with_reducible refine wp_load_box_g rfl _ rfl ?_); refine ⟨_, c, rfl, HV1.out.1.p, ?_⟩)
        | ((with_reducible refine wp_load_box_g rfl _ rfl ?_); refine ⟨_, c, rfl, HW0.out.1.p, ?_⟩)
        | (go_at_call 19; (with_reducible refine (HC1.out _).mono ?_); rintro e wc1 ⟨rfl, hbc⟩; have HK1 := Lib.hid (HW0.out.1.next hbc); clear hbc)
        | (go_at_call 17; (with_reducible refine (HS1.out _).mono ?_); rintro e wd1 ⟨rfl, hbc⟩; have HW1 := Lib.hid (And.intro (HV1.out.1.next hbc) (And.intro (HV1.out.2.1.below hbc) HV1.out.2.2)); clear hbc)
        | ((with_reducible refine wp_store_row' rfl 33 _ _ rfl ?_); refine ⟨w.heap.size + 1, 33, movC 60 tg1 0 0 true, rfl, rfl, ⟨_, HW1.out.1.res.heap, (by kernel_rfl)⟩, Try.info_mvB _ _ _ _ _, Try.one_mvB _ _ _ _ _, ?_⟩; intro W9 hP9 hq9; have HB := Lib.hid (hP9.below HW1.out.1.below (Nat.le_succ _)))
        | ((with_reducible refine wp_store_row' rfl 33 _ _ rfl ?_); refine ⟨wc1.heap.size, 33, movC 60 tg1 0 0 true, rfl, rfl, ⟨_, heap_alloc_new _ _, (by kernel_rfl)⟩, Try.info_mvB _ _ _ _ _, Try.one_mvB _ _ _ _ _, ?_⟩; intro V1 hP hq; have HV1 := Lib.hid (And.intro ((HK1.out.next ((Below.refl _ _).alloc (Nat.le_refl _) _)).other hP HK1.out.res.lt) (And.intro hq HK1.out.res.lt)); clear hP hq)
        | ((with_reducible refine mv_load_rowG rfl 33 _ rfl Try.underlying33 rfl ?_); refine ⟨_, _, _, rfl, HW1.out.2.1, Try.info_mvB _ _ _ _ _, ?_⟩)
        | ((with_reducible refine mv_load_rowG rfl 33 _ rfl Try.underlying33 rfl ?_); refine ⟨_, _, _, rfl, HV1.out.2.1, Try.info_mvB _ _ _ _ _, ?_⟩))
      rw [rounds_succ]
      go_wp2_with ((with_reducible refine wp_store_row' rfl 33 _ _ rfl ?_); refine ⟨w.heap.size + 1, 33, movC 0 0 0 0 false, rfl, rfl, ⟨_, HW1.out.1.res.heap, (by kernel_rfl)⟩, Try.info_mvB _ _ _ _ _, Try.one_mvB _ _ _ _ _, ?_⟩; intro W9 hP9 hq9; have HB := Lib.hid (hP9.below HW1.out.1.below (Nat.le_succ _)))
      exact bodyPost_ret (results_mv_tmp Try.results8 _ _ (w.heap.size + 1) 33 _ (0, 0) _ rfl hq9.heap Try.underlying33 rfl (Try.info_mvB _ _ _ _ _)) rfl ⟨rfl, HB.out⟩
    · refine ⟨60, tg1, true, true, HR1.out rfl rfl, fun _ => rfl, fun w => ?_⟩
      have h0 : MvRes w w.heap.size c ((w.alloc (.cells (posC c) 31)).alloc (.cells #[.int .i8 0, .int .i8 0, .int .u8 0, .int .u8 0, .bool false] 33)) :=
        ⟨(PosAt.new w c).alloc _, by have := RowAt.new (w.alloc (.cells (posC c) 31)) #[.int .i8 0, .int .i8 0, .int .u8 0, .int .u8 0, .bool false] 33; rwa [World.size_alloc] at this, ((Below.refl _ _).alloc (Nat.le_refl _) _).alloc (by simp) _⟩
      have c0 := h0.p.cell (i := 0) (by decide)
      rw [show pk 0 = .u8 from rfl] at c0
      have H0 := Lib.hid h0
      clear h0
      go_enter Try.func8, Try.ntmps8
      go_wp2_with (go_at_call 18; (with_reducible refine (mvgoals_any _).mono ?_); rintro e wg ⟨rfl, hbg⟩; have HG := Lib.hid (H0.out.next hbg); clear hbg)
      refine wp_loop_rounds 3 ?_
      rw [rounds_succ]
      go_wp2_with (first
        | ((with_reducible refine wp_load_box_g rfl _ rfl ?_); refine ⟨_, c, rfl, HV0.out.1.p, ?_⟩)
        | ((with_reducible refine wp_load_box_g rfl _ rfl ?_); refine ⟨_, c, rfl, HG.out.p, ?_⟩)
        | (go_at_call 19; (with_reducible refine (HC0.out _).mono ?_); rintro e wc0 ⟨rfl, hbc⟩; have HK0 := Lib.hid (HG.out.next hbc); clear hbc)
        | (go_at_call 17; (with_reducible refine (HS0.out _).mono ?_); rintro e wd0 ⟨rfl, hbc⟩; have HW0 := Lib.hid (And.intro (HV0.out.1.next hbc) (And.intro (HV0.out.2.1.below hbc) HV0.out.2.2)); clear hbc)
        | ((with_reducible refine wp_store_row' rfl 33 _ _ rfl ?_); refine ⟨w.heap.size + 1, 33, movC 60 tg0 0 0 true, rfl, rfl, ⟨_, HW0.out.1.res.heap, (by kernel_rfl)⟩, Try.info_mvB _ _ _ _ _, Try.one_mvB _ _ _ _ _, ?_⟩; intro W9 hP9 hq9; have HB := Lib.hid (hP9.below HW0.out.1.below (Nat.le_succ _)))
        | ((with_reducible refine wp_store_row' rfl 33 _ _ rfl ?_); refine ⟨wc0.heap.size, 33, movC 60 tg0 0 0 true, rfl, rfl, ⟨_, heap_alloc_new _ _, (by kernel_rfl)⟩, Try.info_mvB _ _ _ _ _, Try.one_mvB _ _ _ _ _, ?_⟩; intro V0 hP hq; have HV0 := Lib.hid (And.intro ((HK0.out.next ((Below.refl _ _).alloc (Nat.le_refl _) _)).other hP HK0.out.res.lt) (And.intro hq HK0.out.res.lt)); clear hP hq)
        | ((with_reducible refine mv_load_rowG rfl 33 _ rfl Try.underlying33 rfl ?_); refine ⟨_, _, _, rfl, HW0.out.2.1, Try.info_mvB _ _ _ _ _, ?_⟩)
        | ((with_reducible refine mv_load_rowG rfl 33 _ rfl Try.underlying33 rfl ?_); refine ⟨_, _, _, rfl, HV0.out.2.1, Try.info_mvB _ _ _ _ _, ?_⟩))
      rw [rounds_succ]
      go_wp2_with (first
        | ((with_reducible refine wp_load_box_g rfl _ rfl ?_); refine ⟨_, c, rfl, HV1.out.1.p, ?_⟩)
        | ((with_reducible refine wp_load_box_g rfl _ rfl ?_); refine ⟨_, c, rfl, HW0.out.1.p, ?_⟩)
        | (go_at_call 19; (with_reducible refine (HC1.out _).mono ?_); rintro e wc1 ⟨rfl, hbc⟩; have HK1 := Lib.hid (HW0.out.1.next hbc); clear hbc)
        | (go_at_call 17; (with_reducible refine (HS1.out _).mono ?_); rintro e wd1 ⟨rfl, hbc⟩; have HW1 := Lib.hid (And.intro (HV1.out.1.next hbc) (And.intro (HV1.out.2.1.below hbc) HV1.out.2.2)); clear hbc)
        | ((with_reducible refine wp_store_row' rfl 33 _ _ rfl ?_); refine ⟨w.heap.size + 1, 33, movC 60 tg1 0 0 true, rfl, rfl, ⟨_, HW1.out.1.res.heap, (by kernel_rfl)⟩, Try.info_mvB _ _ _ _ _, Try.one_mvB _ _ _ _ _, ?_⟩; intro W9 hP9 hq9; have HB := Lib.hid (hP9.below HW1.out.1.below (Nat.le_succ _)))
        | ((with_reducible refine wp_store_row' rfl 33 _ _ rfl ?_); refine ⟨wc1.heap.size, 33, movC 60 tg1 0 0 true, rfl, rfl, ⟨_, heap_alloc_new _ _, (by kernel_rfl)⟩, Try.info_mvB _ _ _ _ _, Try.one_mvB _ _ _ _ _, ?_⟩; intro V1 hP hq; have HV1 := Lib.hid (And.intro ((HK1.out.next ((Below.refl _ _).alloc (Nat.le_refl _) _)).other hP HK1.out.res.lt) (And.intro hq HK1.out.res.lt)); clear hP hq)
        | ((with_reducible refine mv_load_rowG rfl 33 _ rfl Try.underlying33 rfl ?_); refine ⟨_, _, _, rfl, HW1.out.2.1, Try.info_mvB _ _ _ _ _, ?_⟩)
        | ((with_reducible refine mv_load_rowG rfl 33 _ rfl Try.underlying33 rfl ?_); refine ⟨_, _, _, rfl, HV1.out.2.1, Try.info_mvB _ _ _ _ _, ?_⟩))
      exact bodyPost_ret (results_mv_tmp Try.results8 _ _ (w.heap.size + 1) 33 _ (0, 0) _ rfl hq9.heap Try.underlying33 rfl (Try.info_mvB _ _ _ _ _)) rfl ⟨rfl, HB.out⟩
  · refine ⟨60, tg0, true, true, HR0.out rfl rfl, fun _ => rfl, fun w => ?_⟩
    have h0 : MvRes w w.heap.size c ((w.alloc (.cells (posC c) 31)).alloc (.cells #[.int .i8 0, .int .i8 0, .int .u8 0, .int .u8 0, .bool false] 33)) :=
      ⟨(PosAt.new w c).alloc _, by have := RowAt.new (w.alloc (.cells (posC c) 31)) #[.int .i8 0, .int .i8 0, .int .u8 0, .int .u8 0, .bool false] 33; rwa [World.size_alloc] at this, ((Below.refl _ _).alloc (Nat.le_refl _) _).alloc (by simp) _⟩
    have c0 := h0.p.cell (i := 0) (by decide)
    rw [show pk 0 = .u8 from rfl] at c0
    have H0 := Lib.hid h0
    clear h0
    go_enter Try.func8, Try.ntmps8
    go_wp2_with (go_at_call 18; (with_reducible refine (mvgoals_any _).mono ?_); rintro e wg ⟨rfl, hbg⟩; have HG := Lib.hid (H0.out.next hbg); clear hbg)
    refine wp_loop_rounds 3 ?_
    rw [rounds_succ]
    go_wp2_with (first
      | ((with_reducible refine wp_load_box_g rfl _ rfl ?_); refine ⟨_, c, rfl, HV0.out.1.p, ?_⟩)
      | ((with_reducible refine wp_load_box_g rfl _ rfl ?_); refine ⟨_, c, rfl, HG.out.p, ?_⟩)
      | (go_at_call 19; (with_reducible refine (HC0.out _).mono ?_); rintro e wc0 ⟨rfl, hbc⟩; have HK0 := Lib.hid (HG.out.next hbc); clear hbc)
      | (go_at_call 17; (with_reducible refine (HS0.out _).mono ?_); rintro e wd0 ⟨rfl, hbc⟩; have HW0 := Lib.hid (And.intro (HV0.out.1.next hbc) (And.intro (HV0.out.2.1.below hbc) HV0.out.2.2)); clear hbc)
      | ((with_reducible refine wp_store_row' rfl 33 _ _ rfl ?_); refine ⟨w.heap.size + 1, 33, movC 60 tg0 0 0 true, rfl, rfl, ⟨_, HW0.out.1.res.heap, (by kernel_rfl)⟩, Try.info_mvB _ _ _ _ _, Try.one_mvB _ _ _ _ _, ?_⟩; intro W9 hP9 hq9; have HB := Lib.hid (hP9.below HW0.out.1.below (Nat.le_succ _)))
      | ((with_reducible refine wp_store_row' rfl 33 _ _ rfl ?_); refine ⟨wc0.heap.size, 33, movC 60 tg0 0 0 true, rfl, rfl, ⟨_, heap_alloc_new _ _, (by kernel_rfl)⟩, Try.info_mvB _ _ _ _ _, Try.one_mvB _ _ _ _ _, ?_⟩; intro V0 hP hq; have HV0 := Lib.hid (And.intro ((HK0.out.next ((Below.refl _ _).alloc (Nat.le_refl _) _)).other hP HK0.out.res.lt) (And.intro hq HK0.out.res.lt)); clear hP hq)
      | ((with_reducible refine mv_load_rowG rfl 33 _ rfl Try.underlying33 rfl ?_); refine ⟨_, _, _, rfl, HW0.out.2.1, Try.info_mvB _ _ _ _ _, ?_⟩)
      | ((with_reducible refine mv_load_rowG rfl 33 _ rfl Try.underlying33 rfl ?_); refine ⟨_, _, _, rfl, HV0.out.2.1, Try.info_mvB _ _ _ _ _, ?_⟩))
    exact bodyPost_ret (results_mv_tmp Try.results8 _ _ (w.heap.size + 1) 33 _ (0, 0) _ rfl hq9.heap Try.underlying33 rfl (Try.info_mvB _ _ _ _ _)) rfl ⟨rfl, HB.out⟩

theorem mvrook_fix (c : Nat → Int) (s : ByteArray) (hk : N.known c) (hs : s.size ≤ 9223372036854775807) : ∃ (f g : Int) (z ok : Bool), N.RookR c s f g ok ∧ (ok = true → z = true) ∧ ∀ w, Calls Try.prog 8 #[.agg (posC c), .string s] w fun e w' => e = .returned (.tuple #[.agg (movC f g 0 0 z), .bool ok]) ∧ Below w.heap.size w w' := by
  by_cases h0 : c 0 = 1
  · obtain ⟨f, g, ok, h1, h2⟩ := mvrook_9 c s hk h0 hs
    exact ⟨f, g, true, ok, h1, fun _ => rfl, h2⟩
  · rcases (show c 78 = 0 ∨ c 78 = 1 by have := hk.2; omega) with h | h
    · exact mvrook_o0 c s hk h0 h
    · exact mvrook_o1 c s hk h0 h
end Go.Proofs.Ytldpejeodhkgdaa
