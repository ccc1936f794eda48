/- The program's package moves: plain moves are read. -/
import Derived.Test.YtldpejeodhkgdaaMvI
namespace Go.Proofs.Ytldpejeodhkgdaa
open Go.RowKit Go.Sort
attribute [local go_sem] Oper.semAt_some

theorem i8_in {n : Int} (h : 0 ≤ n ∧ n < 64) : IntKind.i8.wrap n = n := by unfold IntKind.wrap; simp only [IntKind.bits, IntKind.signed]; simp; omega
/-- A box of a move behind a call's beginning. -/
structure MvBox (w : World) (g : Nat) (m : Array Value) (W : World) : Prop where
  res : ∃ old, W.heap[w.heap.size]? = some (.cells old 33 (0, 0)) ∧ old.size = 5
  m : RowAt W g 33 m
  below : Below w.heap.size w W
  hi : w.heap.size < g
set_option maxRecDepth 100000 in
set_option maxHeartbeats 2000000 in
theorem mvwalk_fix (s : ByteArray) (hs : s.size ≤ 9223372036854775807) : ∃ (f g x : Int) (ok : Bool), N.WalkR s f g x ok ∧ ∀ w, Calls Try.prog 12 #[.string s] w fun e w' => e = .returned (.tuple #[.agg (movC f g x 0 false), .bool ok]) ∧ Below w.heap.size w w' := by
  obtain ⟨n, m, k, hT, hn, hm, hC⟩ := mvtwo_fix s hs
  have HT := Lib.hid hC
  clear hC
  cases k
  · refine ⟨0, 0, 0, false, N.walkR_not hT, fun w => ?_⟩
    have hb0 : Below w.heap.size w (w.alloc (.cells #[.int .i8 0, .int .i8 0, .int .u8 0, .int .u8 0, .bool false] 33)) := (Below.refl _ _).alloc (Nat.le_refl _) _
    have HR := Lib.hid (And.intro (RowAt.new w #[.int .i8 0, .int .i8 0, .int .u8 0, .int .u8 0, .bool false] 33) hb0)
    clear hb0 hT hn hm
    go_enter Try.func12, Try.ntmps12
    go_wp2_with (first
      | (go_at_call 16; (with_reducible refine (HT.out _).mono ?_); rintro e wa ⟨rfl, hba⟩; have HA := Lib.hid (And.intro (HR.out.1.below hba) (below_next HR.out.2 hba)); clear hba)
      | ((with_reducible refine wp_store_row' rfl 33 _ _ rfl ?_); refine ⟨w.heap.size, 33, movC 0 0 0 0 false, rfl, rfl, ⟨_, HA.out.1.heap, (by kernel_rfl)⟩, Try.info_mvB _ _ _ _ _, Try.one_mvB _ _ _ _ _, ?_⟩; intro W9 hP9 hq9; have HB := Lib.hid (hP9.below HA.out.2 (Nat.le_refl _))))
    exact bodyPost_ret (results_mv_tmp Try.results12 _ _ w.heap.size 33 _ (0, 0) _ rfl hq9.heap Try.underlying33 rfl (Try.info_mvB _ _ _ _ _)) rfl ⟨rfl, HB.out⟩
  · by_cases h4 : 4 < s.size
    · obtain ⟨x, a, hp⟩ := P.parsed_any (s.extract 4 s.size)
      have hx := P.parsed_facts hp
      have hW := N.walkR_five hT h4 hp
      have HX := Lib.hid (fun W => parse_eq _ x a hp W)
      have HK : Hid (∀ W, Calls Try.prog 22 #[.int .u8 x] W fun e w' => e = .returned (.int .u8 (P.kind x)) ∧ W = w') := Lib.hid (fun W => kind_any x W hx.1 hx.2.1)
      have HC : Hid (∀ W, Calls Try.prog 23 #[.int .u8 x] W fun e w' => e = .returned (.int .u8 (P.color x)) ∧ W = w') := Lib.hid (fun W => color_any x W hx.1 hx.2.1)
      obtain ⟨k, hk2⟩ : ∃ k, P.kind x = k := ⟨_, rfl⟩
      obtain ⟨co, hc2⟩ : ∃ k, P.color x = k := ⟨_, rfl⟩
      obtain ⟨c1, hc1⟩ : ∃ c1, (co == 1) = c1 := ⟨_, rfl⟩
      obtain ⟨k1, hk1⟩ : ∃ k1, decide (1 < k) = k1 := ⟨_, rfl⟩
      obtain ⟨ok, hok⟩ : ∃ ok, (a && (P.color x == 1 && decide (1 < P.kind x))) = ok := ⟨_, rfl⟩
      refine ⟨n, m, k, ok, by rw [← hok, ← hk2]; exact hW, fun w => ?_⟩
      rw [hk2] at HK hok
      rw [hc2] at HC hok
      rw [hc1, hk1] at hok
      have HE := Lib.hid hok
      have d4 : decide ((4 : Int) < (s.size : Int)) = true := by simp; omega
      have hb0 : Below w.heap.size w (w.alloc (.cells #[.int .i8 0, .int .i8 0, .int .u8 0, .int .u8 0, .bool false] 33)) := (Below.refl _ _).alloc (Nat.le_refl _) _
      have HR := Lib.hid (And.intro (RowAt.new w #[.int .i8 0, .int .i8 0, .int .u8 0, .int .u8 0, .bool false] 33) hb0)
      clear hb0 hT hn hm hp hx hW hk2 hc2 hok
      cases a <;> cases c1
      all_goals
        go_enter Try.func12, Try.ntmps12
        go_wp2_with (first
          | (go_at_call 16; (with_reducible refine (HT.out _).mono ?_); rintro e wa ⟨rfl, hba⟩; have HA := Lib.hid (And.intro (HR.out.1.below hba) (below_next HR.out.2 hba)); clear hba)
          | ((with_reducible refine wp_store_at rfl 5 _ _ rfl ?_); refine ⟨_, _, _, _, .int .u8 k, rfl, rfl, rfl, HD.out.m, (by show 2 < 5; omega), Try.size_u8, ?_⟩; intro V hV hR3; have HF := Lib.hid (show MvBox w wa.heap.size (movC n m k 0 false) V from ⟨HD.out.res.imp fun o h => ⟨(hV.block _ (Nat.ne_of_lt HD.out.hi)).trans h.1, h.2⟩, hR3, hV.below HD.out.below (Nat.le_of_lt HD.out.hi), HD.out.hi⟩); have m2 := HF.out.m.cell 2; rw [show (movC n m k 0 false)[2]? = some (.int .u8 k) from rfl] at m2; clear hV hR3)
          | ((with_reducible refine wp_store_row' rfl 33 _ _ rfl ?_); refine ⟨w.heap.size, 33, movC n m k 0 false, rfl, rfl, HF.out.res, Try.info_mvB _ _ _ _ _, Try.one_mvB _ _ _ _ _, ?_⟩; intro W9 hP9 hq9; have HB := Lib.hid (hP9.below HF.out.below (Nat.le_refl _)))
          | ((with_reducible refine wp_store_row' rfl 33 _ _ rfl ?_); refine ⟨wa.heap.size, 33, movC n m 0 0 false, rfl, rfl, ⟨_, heap_alloc_new _ _, (by kernel_rfl)⟩, Try.info_mvB _ _ _ _ _, Try.one_mvB _ _ _ _ _, ?_⟩; intro W3 hP hq; have HG := Lib.hid (show MvBox w wa.heap.size (movC n m 0 0 false) W3 from ⟨⟨_, (hP.row (HA.out.1.alloc _) (Nat.ne_of_lt HA.out.1.lt)).heap, rfl⟩, hq, hP.below (HA.out.2.alloc HA.out.2.size _) HA.out.2.size, HA.out.1.lt⟩); clear hP hq)
          | ((with_reducible refine wp_load_row' rfl 33 _ rfl Try.underlying33 rfl ?_); refine ⟨_, _, _, rfl, HF.out.m, Try.info_mvB _ _ _ _ _, ?_⟩)
          | (go_at_call 20; (with_reducible refine (HX.out _).mono ?_); rintro e wb ⟨rfl, hbb⟩; have HD := Lib.hid (show MvBox w wa.heap.size (movC n m 0 0 false) wb from ⟨HG.out.res.imp fun o h => ⟨(hbb.block _ (Nat.lt_trans HG.out.hi HG.out.m.lt)).trans h.1, h.2⟩, HG.out.m.below hbb, below_next HG.out.below hbb, HG.out.hi⟩); clear hbb)
          | (go_at_call 22; (with_reducible refine (HK.out _).mono ?_); rintro e wc ⟨rfl, rfl⟩)
          | (go_at_call 23; (with_reducible refine (HC.out _).mono ?_); rintro e wc ⟨rfl, rfl⟩))
        exact bodyPost_ret (results_mv_tmp Try.results12 _ _ w.heap.size 33 _ (0, 0) _ rfl hq9.heap Try.underlying33 rfl (Try.info_mvB _ _ _ _ _)) rfl ⟨by rw [← HE.out]; first | rfl | (rw [hk1]; rfl), HB.out⟩
    · refine ⟨n, m, 0, true, N.walkR_four hT h4, fun w => ?_⟩
      have d4 : decide ((4 : Int) < (s.size : Int)) = false := by simp; omega
      have hb0 : Below w.heap.size w (w.alloc (.cells #[.int .i8 0, .int .i8 0, .int .u8 0, .int .u8 0, .bool false] 33)) := (Below.refl _ _).alloc (Nat.le_refl _) _
      have HR := Lib.hid (And.intro (RowAt.new w #[.int .i8 0, .int .i8 0, .int .u8 0, .int .u8 0, .bool false] 33) hb0)
      clear hb0 hT hn hm
      go_enter Try.func12, Try.ntmps12
      go_wp2_with (first
        | (go_at_call 16; (with_reducible refine (HT.out _).mono ?_); rintro e wa ⟨rfl, hba⟩; have HA := Lib.hid (And.intro (HR.out.1.below hba) (below_next HR.out.2 hba)); clear hba)
        | ((with_reducible refine wp_store_row' rfl 33 _ _ rfl ?_); refine ⟨w.heap.size, 33, movC n m 0 0 false, rfl, rfl, HG.out.res, Try.info_mvB _ _ _ _ _, Try.one_mvB _ _ _ _ _, ?_⟩; intro W9 hP9 hq9; have HB := Lib.hid (hP9.below HG.out.below (Nat.le_refl _)))
        | ((with_reducible refine wp_store_row' rfl 33 _ _ rfl ?_); refine ⟨wa.heap.size, 33, movC n m 0 0 false, rfl, rfl, ⟨_, heap_alloc_new _ _, (by kernel_rfl)⟩, Try.info_mvB _ _ _ _ _, Try.one_mvB _ _ _ _ _, ?_⟩; intro W3 hP hq; have HG := Lib.hid (show MvBox w wa.heap.size (movC n m 0 0 false) W3 from ⟨⟨_, (hP.row (HA.out.1.alloc _) (Nat.ne_of_lt HA.out.1.lt)).heap, rfl⟩, hq, hP.below (HA.out.2.alloc HA.out.2.size _) HA.out.2.size, HA.out.1.lt⟩); clear hP hq)
        | ((with_reducible refine wp_load_row' rfl 33 _ rfl Try.underlying33 rfl ?_); refine ⟨_, _, _, rfl, HG.out.m, Try.info_mvB _ _ _ _ _, ?_⟩))
      exact bodyPost_ret (results_mv_tmp Try.results12 _ _ w.heap.size 33 _ (0, 0) _ rfl hq9.heap Try.underlying33 rfl (Try.info_mvB _ _ _ _ _)) rfl ⟨rfl, HB.out⟩
end Go.Proofs.Ytldpejeodhkgdaa
