/- The law MovesParse. -/
import Derived.Test.YtldpejeodhkgdaaMvX
namespace Go.Proofs.Ytldpejeodhkgdaa
open Go.RowKit Go.Sort
attribute [local go_sem] Oper.semAt_some

theorem mv_selfP (m : Mv) : (m == m) = true := by simp
set_option maxRecDepth 100000 in
set_option maxHeartbeats 4000000 in
theorem movesParse_walk (c : Nat → Int) (s : ByteArray) (w : World) (hc : PosOk c) (hs : s.size ≤ 9223372036854775807) :
    Calls Try.prog 3 #[.agg (posC c), .string s] w fun e w' => e = .returned (.bool true) ∧ Below w.heap.size w w' := by
  have H0 := Lib.hid (And.intro (PosAt.new w c) ((Below.refl _ w).alloc (Nat.le_refl _) (.cells (posC c) 31)))
  by_cases h5 : 5000 < s.size
  · have d5 : decide ((5000 : Int) < (s.size : Int)) = true := by simp; omega
    clear h5 hc
    go_enter Try.func3, Try.ntmps3
    go_wp2
    go_ret
    exact ⟨rfl, H0.out.2⟩
  · have d5 : decide ((5000 : Int) < (s.size : Int)) = false := by simp; omega
    obtain ⟨f, g, x, y, z, e, hE, hEC⟩ := mvParse_fix c s hc hs
    have HP := Lib.hid hEC
    have HQ := Lib.hid (show ∀ W, Calls Try.prog 5 #[.agg (posC c), .string s] W fun r w' => r = .returned (.tuple #[.agg (movC f g x y z), .int .i64 e]) ∧ Below W.heap.size W w' from fun W => by
      refine (d11Parse_any c s W hc hs).mono ?_
      rintro r w' ⟨⟨f', g', x', y', z', e', rfl, h'⟩, hb⟩
      obtain ⟨rfl, rfl, rfl, rfl, rfl, rfl⟩ := N.parseEnd_one hE h'
      exact ⟨rfl, hb⟩)
    clear hE hEC h5 hc
    go_enter Try.func3, Try.ntmps3
    go_wp2_with (first
      | ((with_reducible refine wp_load_box_g rfl _ rfl ?_); refine ⟨_, c, rfl, H2.out.1, ?_⟩)
      | ((with_reducible refine wp_load_box_g rfl _ rfl ?_); refine ⟨_, c, rfl, H0.out.1, ?_⟩)
      | ((with_reducible refine mv_load_rowG rfl 33 _ rfl Try.underlying33 rfl ?_); refine ⟨_, _, _, rfl, H4.out.1, Try.info_mvB _ _ _ _ _, ?_⟩)
      | ((with_reducible refine mv_load_rowG rfl 33 _ rfl Try.underlying33 rfl ?_); refine ⟨_, _, _, rfl, H4.out.2.1, Try.info_mvB _ _ _ _ _, ?_⟩)
      | (go_at_call 4; (with_reducible refine (HP.out _).mono ?_); rintro r w1 ⟨rfl, hb⟩; have H1 := Lib.hid (And.intro (H0.out.1.below hb) (below_next H0.out.2 hb)); clear hb)
      | (go_at_call 5; (with_reducible refine (HQ.out _).mono ?_); rintro r w3 ⟨rfl, hb⟩; have H3 := Lib.hid (And.intro (H2.out.2.1.below hb) (below_next H2.out.2.2 hb)); clear hb)
      | ((with_reducible refine wp_store_row' rfl 33 _ _ rfl ?_); refine ⟨w1.heap.size, 33, movC f g x y z, rfl, rfl, ⟨_, heap_alloc_new _ _, (by kernel_rfl)⟩, Try.info_mvB _ _ _ _ _, Try.one_mvB _ _ _ _ _, ?_⟩; intro W2 hP hq; have H2 := Lib.hid (And.intro (hP.pos (H1.out.1.alloc _) (Nat.ne_of_lt H1.out.1.lt)) (And.intro hq (hP.below (H1.out.2.alloc H1.out.2.size _) H1.out.2.size))); clear hP hq)
      | ((with_reducible refine wp_store_row' rfl 33 _ _ rfl ?_); refine ⟨w3.heap.size, 33, movC f g x y z, rfl, rfl, ⟨_, heap_alloc_new _ _, (by kernel_rfl)⟩, Try.info_mvB _ _ _ _ _, Try.one_mvB _ _ _ _ _, ?_⟩; intro W4 hP hq; have H4 := Lib.hid (And.intro (hP.row (H3.out.1.alloc _) (Nat.ne_of_lt H3.out.1.lt)) (And.intro hq (hP.below (H3.out.2.alloc H3.out.2.size _) H3.out.2.size))); clear hP hq)
      | ((with_reducible refine wpl_eql_mv rfl _ _ _ rfl ?_); refine ⟨(f, g, x, y, z), (f, g, x, y, z), rfl, rfl, ?_⟩; rw [mv_selfP]))
    go_ret
    exact ⟨by first | rfl | simp, H4.out.2.2⟩
end Go.Proofs.Ytldpejeodhkgdaa
