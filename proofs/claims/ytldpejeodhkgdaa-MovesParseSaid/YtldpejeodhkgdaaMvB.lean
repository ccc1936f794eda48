/- The program's package moves: castling. -/
import Derived.Test.YtldpejeodhkgdaaMvA
import Derived.Test.YtldpejeodhkgdaaOpenM
namespace Go.Proofs.Ytldpejeodhkgdaa
open Go.RowKit Go.Sort
attribute [local go_sem] Oper.semAt_some

theorem quiet_load_mvp {K : Act → Prop} {a : Act} {o : Oper} {w : World} (x : Operand) (ho : o.op = .load 31 x)
    (h : ∃ (g : Nat) (c : Nat → Int), a.eval x = .pointer (some ⟨g, 0, none⟩) ∧ PosAt w g c ∧ K (a.put o.dst (.agg (posC c)))) : o.quiet Try.prog a (fun w' => ∃ p : Regrown, w' = grow (redrawn w p.d) p.os) K := by
  obtain ⟨g, c, hx, hp, hk⟩ := h
  exact quiet_load_pos x ho c ⟨g, _, _, hx, fun w' ⟨p, e⟩ => by rw [e, heap_grow _ _ _ _ hp.lt]; exact hp.heap⟩ hk
theorem results_mv_tmp {P : Program} {fn : Func} {p u : Tmp} {ty : TypeId} (h : fn.results = #[.cell p ty, .tmp u]) (tmps : Array Value) (w : World) (g : Nat) (t : TypeId) (cs : Array Value) (fr : Nat × Nat) (d : TypeDesc)
    (hp : tmps.getD p undef = .pointer (some ⟨g, 0, none⟩)) (hg : w.heap[g]? = some (.cells cs t fr))
    (hu : P.underlying ty = some d) (hd : (match d with | .struct _ | .array _ _ => true | _ => false) = true) (hi : (P.info? ty).map (·.size) = some cs.size) :
    (results fn tmps).run P w = .ok (.tuple #[.agg cs, tmps.getD u undef]) w := by
  rw [results_cell_tmp h, hp]
  simp [asAddr, run_loadVar_row w g t ty cs fr d hg hu hd hi, Result.andThen]
/-- A position in a call's first box, a move's box behind it. -/
structure MvRes (w : World) (g : Nat) (c : Nat → Int) (W : World) : Prop where
  p : PosAt W g c
  res : RowAt W (g + 1) 33 #[.int .i8 0, .int .i8 0, .int .u8 0, .int .u8 0, .bool false]
  below : Below g w W
theorem MvRes.next {w W W' : World} {g : Nat} {c : Nat → Int} (h : MvRes w g c W) (hb : Below W.heap.size W W') : MvRes w g c W' :=
  ⟨h.p.below hb, h.res.below hb, h.below.trans (hb.mono (Nat.le_of_lt h.p.lt))⟩
theorem MvRes.other {w W W' : World} {g e : Nat} {c : Nat → Int} (h : MvRes w g c W) (hP : Put e W W') (he : g + 1 < e) : MvRes w g c W' :=
  ⟨hP.pos h.p (by omega), hP.row h.res (by omega), hP.below h.below (by omega)⟩
theorem Try.info_mvB (f g x y : Int) (z : Bool) : (Try.prog.info? 33).map (·.size) = some (movC f g x y z).size := by kernel_rfl
theorem Try.one_mvB (f g x y : Int) (z : Bool) : (movC f g x y z).all (·.oneCell') = true := by kernel_rfl

set_option maxRecDepth 100000 in
set_option maxHeartbeats 2000000 in
theorem mvcastling_00 (c : Nat → Int) (w : World) (ht : c 78 = 0) :
    Calls Try.prog 19 #[.agg (posC c), .int .i64 0] w fun e w' => e = .returned (.tuple #[.agg (movC 4 (IntKind.i8.wrap (0 + c 79)) 0 0 true), .bool (c 0 != 1 && N.sideOk c 0)]) ∧ Below w.heap.size w w' := by
  have h0 : MvRes w w.heap.size c ((w.alloc (.cells (posC c) 31)).alloc (.cells #[.int .i8 0, .int .i8 0, .int .u8 0, .int .u8 0, .bool false] 33)) :=
    ⟨(PosAt.new w c).alloc _, by have := RowAt.new (w.alloc (.cells (posC c) 31)) #[.int .i8 0, .int .i8 0, .int .u8 0, .int .u8 0, .bool false] 33; rwa [World.size_alloc] at this, ((Below.refl _ _).alloc (Nat.le_refl _) _).alloc (by simp) _⟩
  have HHo : Hid (∀ W, Calls Try.prog 33 #[.agg (posC c)] W fun e w' => e = .returned (.int .i8 0) ∧ Below W.heap.size W w') := Lib.hid (fun W => by
    have := mvhome_any c W (by omega)
    rwa [show ((N.home c : Nat) : Int) = 0 by unfold N.home; rw [ht]; rfl] at this)
  have HSt : Hid (∀ W, Calls Try.prog 31 #[.agg (posC c), .int .i8 4, .int .u8 6] W fun e w' => e = .returned (.bool (N.king c 4)) ∧ Below W.heap.size W w') := Lib.hid (fun W => stands_walk c 4 6 W (by decide) (by omega) (by omega) (by decide) (by decide))
  have HE := Lib.hid (show N.sideOk c 0 = (N.king c 4 && (decide (0 ≤ c 79) && (decide (c 79 < 8) && (c 79 != 4 && (decide (4 < c 79) == true))))) by unfold N.sideOk N.home N.rk; rw [ht]; rfl)
  have c78 := h0.p.cell (i := 78) (by decide)
  have cr := h0.p.cell (i := 79) (by decide)
  rw [show pk 78 = .u8 from rfl, ht] at c78
  rw [show pk 79 = .i8 from rfl] at cr
  have lb := h0.p.lt
  have hs0 : ((w.alloc (.cells (posC c) 31)).alloc (.cells #[.int .i8 0, .int .i8 0, .int .u8 0, .int .u8 0, .bool false] 33)).heap.size = w.heap.size + 2 := by simp
  have H0 := Lib.hid h0
  clear h0 ht
  obtain ⟨r, hr⟩ : ∃ r, c 79 = r := ⟨_, rfl⟩
  obtain ⟨st, hst⟩ : ∃ s, N.king c 4 = s := ⟨_, rfl⟩
  obtain ⟨so, hso⟩ : ∃ s, N.sideOk c 0 = s := ⟨_, rfl⟩
  rw [hr, hst, hso] at HE
  rw [hr] at cr ⊢
  rw [hst] at HSt
  rw [hso]
  obtain ⟨tg, htg⟩ : ∃ x, IntKind.i8.wrap (0 + r) = x := ⟨_, rfl⟩
  rw [htg]
  clear hr hst hso
  rw [Int.zero_add] at htg
  go_enter Try.func19, Try.ntmps19
  go_upto_region 1 with fail
  refine region_below (by kernel_rfl) (by kernel_rfl) ?_
  try simp only [Act.put]
  repeat (first
    | (go_big_quiet_want; refine quiet_load_mvp _ rfl ⟨_, c, rfl, H0.out.p, ?_⟩; simp only [Act.put, List.setIfInBounds_toArray, List.set_cons_succ, List.set_cons_zero]; go_big_quiet_on)
    | go_big_quiet_step (first
      | (go_at_call 33; (with_reducible exact quiet_below (HHo.out _)))))
  refine wpQuiet_nil ?_
  intro w1 hb1
  have H1 := Lib.hid (H0.out.next hb1)
  clear hb1 H0 c78 cr lb hs0
  go_upto_region 3 with (first
    | ((with_reducible refine wp_load_box rfl _ rfl ?_); refine ⟨_, c, rfl, H1.out.p, ?_⟩)
    | (go_at_call 33; (with_reducible refine (HHo.out _).mono ?_); rintro e w2 ⟨rfl, hb2⟩; have H2 := Lib.hid (H1.out.next hb2); clear hb2)
    | ((with_reducible refine wp_store_row' rfl 33 _ _ rfl ?_); refine ⟨w2.heap.size, 33, movC 4 tg 0 0 true, rfl, rfl, ⟨_, heap_alloc_new _ _, (by kernel_rfl)⟩, Try.info_mvB _ _ _ _ _, Try.one_mvB _ _ _ _ _, ?_⟩; intro W3 hP hq; have H3 := Lib.hid (And.intro ((H2.out.next ((Below.refl _ _).alloc (Nat.le_refl _) _)).other hP H2.out.res.lt) (And.intro hq H2.out.res.lt)); clear hP hq))
  obtain ⟨b, hb⟩ : ∃ b, w2.heap.size = b := ⟨_, rfl⟩
  rw [hb] at H3 ⊢
  clear hb H2 H1
  have c0 := H3.out.1.p.cell (i := 0) (by decide)
  rw [show pk 0 = .u8 from rfl] at c0
  have HM := Lib.hid (show ∀ x y z, movC x y 0 0 z = movC x y 0 0 z from fun _ _ _ => rfl)
  cases f0 : (c 0 != 1)
  · have E := Lib.hid (show so = so from rfl)
    clear HE
    go_wp2_with (first
      | ((with_reducible refine wp_load_box_g rfl _ rfl ?_); refine ⟨_, c, rfl, H3.out.1.p, ?_⟩)
      | (go_at_call 31; (with_reducible refine (HSt.out _).mono ?_); rintro e w4 ⟨rfl, hb4⟩; have H4 := Lib.hid (And.intro (H3.out.1.next hb4) (And.intro (H3.out.2.1.below hb4) H3.out.2.2)); clear hb4)
      | ((with_reducible refine wp_load_row' rfl 33 _ rfl Try.underlying33 rfl ?_); refine ⟨_, _, _, rfl, H4.out.2.1, Try.info_mvB _ _ _ _ _, ?_⟩)
      | ((with_reducible refine wp_load_row' rfl 33 _ rfl Try.underlying33 rfl ?_); refine ⟨_, _, _, rfl, H3.out.2.1, Try.info_mvB _ _ _ _ _, ?_⟩)
      | ((with_reducible refine wp_store_row' rfl 33 _ _ rfl ?_); refine ⟨w.heap.size + 1, 33, movC 4 tg 0 0 true, rfl, rfl, ⟨_, H4.out.1.res.heap, (by kernel_rfl)⟩, Try.info_mvB _ _ _ _ _, Try.one_mvB _ _ _ _ _, ?_⟩; intro W9 hP9 hq9; have HB := Lib.hid (hP9.below H4.out.1.below (Nat.le_succ _)))
      | ((with_reducible refine wp_store_row' rfl 33 _ _ rfl ?_); refine ⟨w.heap.size + 1, 33, movC 4 tg 0 0 true, rfl, rfl, ⟨_, H3.out.1.res.heap, (by kernel_rfl)⟩, Try.info_mvB _ _ _ _ _, Try.one_mvB _ _ _ _ _, ?_⟩; intro W9 hP9 hq9; have HB := Lib.hid (hP9.below H3.out.1.below (Nat.le_succ _))))
    exact bodyPost_ret (results_mv_tmp Try.results19 _ _ (w.heap.size + 1) 33 _ (0, 0) _ rfl hq9.heap Try.underlying33 rfl (Try.info_mvB _ _ _ _ _)) rfl ⟨by first | rfl | (rw [f0]; rfl) | (rw [f0, E.out]; rfl), HB.out⟩
  cases st
  · have E := Lib.hid (show so = _ by rw [HE.out])
    clear HE
    go_wp2_with (first
      | ((with_reducible refine wp_load_box_g rfl _ rfl ?_); refine ⟨_, c, rfl, H3.out.1.p, ?_⟩)
      | (go_at_call 31; (with_reducible refine (HSt.out _).mono ?_); rintro e w4 ⟨rfl, hb4⟩; have H4 := Lib.hid (And.intro (H3.out.1.next hb4) (And.intro (H3.out.2.1.below hb4) H3.out.2.2)); clear hb4)
      | ((with_reducible refine wp_load_row' rfl 33 _ rfl Try.underlying33 rfl ?_); refine ⟨_, _, _, rfl, H4.out.2.1, Try.info_mvB _ _ _ _ _, ?_⟩)
      | ((with_reducible refine wp_load_row' rfl 33 _ rfl Try.underlying33 rfl ?_); refine ⟨_, _, _, rfl, H3.out.2.1, Try.info_mvB _ _ _ _ _, ?_⟩)
      | ((with_reducible refine wp_store_row' rfl 33 _ _ rfl ?_); refine ⟨w.heap.size + 1, 33, movC 4 tg 0 0 true, rfl, rfl, ⟨_, H4.out.1.res.heap, (by kernel_rfl)⟩, Try.info_mvB _ _ _ _ _, Try.one_mvB _ _ _ _ _, ?_⟩; intro W9 hP9 hq9; have HB := Lib.hid (hP9.below H4.out.1.below (Nat.le_succ _)))
      | ((with_reducible refine wp_store_row' rfl 33 _ _ rfl ?_); refine ⟨w.heap.size + 1, 33, movC 4 tg 0 0 true, rfl, rfl, ⟨_, H3.out.1.res.heap, (by kernel_rfl)⟩, Try.info_mvB _ _ _ _ _, Try.one_mvB _ _ _ _ _, ?_⟩; intro W9 hP9 hq9; have HB := Lib.hid (hP9.below H3.out.1.below (Nat.le_succ _))))
    exact bodyPost_ret (results_mv_tmp Try.results19 _ _ (w.heap.size + 1) 33 _ (0, 0) _ rfl hq9.heap Try.underlying33 rfl (Try.info_mvB _ _ _ _ _)) rfl ⟨by first | rfl | (rw [f0]; rfl) | (rw [f0, E.out]; rfl), HB.out⟩
  cases f1 : decide (0 ≤ r)
  · have E := Lib.hid (show so = _ by rw [HE.out, f1])
    clear HE
    go_wp2_with (first
      | ((with_reducible refine wp_load_box_g rfl _ rfl ?_); refine ⟨_, c, rfl, H3.out.1.p, ?_⟩)
      | (go_at_call 31; (with_reducible refine (HSt.out _).mono ?_); rintro e w4 ⟨rfl, hb4⟩; have H4 := Lib.hid (And.intro (H3.out.1.next hb4) (And.intro (H3.out.2.1.below hb4) H3.out.2.2)); clear hb4)
      | ((with_reducible refine wp_load_row' rfl 33 _ rfl Try.underlying33 rfl ?_); refine ⟨_, _, _, rfl, H4.out.2.1, Try.info_mvB _ _ _ _ _, ?_⟩)
      | ((with_reducible refine wp_load_row' rfl 33 _ rfl Try.underlying33 rfl ?_); refine ⟨_, _, _, rfl, H3.out.2.1, Try.info_mvB _ _ _ _ _, ?_⟩)
      | ((with_reducible refine wp_store_row' rfl 33 _ _ rfl ?_); refine ⟨w.heap.size + 1, 33, movC 4 tg 0 0 true, rfl, rfl, ⟨_, H4.out.1.res.heap, (by kernel_rfl)⟩, Try.info_mvB _ _ _ _ _, Try.one_mvB _ _ _ _ _, ?_⟩; intro W9 hP9 hq9; have HB := Lib.hid (hP9.below H4.out.1.below (Nat.le_succ _)))
      | ((with_reducible refine wp_store_row' rfl 33 _ _ rfl ?_); refine ⟨w.heap.size + 1, 33, movC 4 tg 0 0 true, rfl, rfl, ⟨_, H3.out.1.res.heap, (by kernel_rfl)⟩, Try.info_mvB _ _ _ _ _, Try.one_mvB _ _ _ _ _, ?_⟩; intro W9 hP9 hq9; have HB := Lib.hid (hP9.below H3.out.1.below (Nat.le_succ _))))
    exact bodyPost_ret (results_mv_tmp Try.results19 _ _ (w.heap.size + 1) 33 _ (0, 0) _ rfl hq9.heap Try.underlying33 rfl (Try.info_mvB _ _ _ _ _)) rfl ⟨by first | rfl | (rw [f0]; rfl) | (rw [f0, E.out]; rfl), HB.out⟩
  cases f2 : decide (r < 8)
  · have E := Lib.hid (show so = _ by rw [HE.out, f1, f2])
    clear HE
    go_wp2_with (first
      | ((with_reducible refine wp_load_box_g rfl _ rfl ?_); refine ⟨_, c, rfl, H3.out.1.p, ?_⟩)
      | (go_at_call 31; (with_reducible refine (HSt.out _).mono ?_); rintro e w4 ⟨rfl, hb4⟩; have H4 := Lib.hid (And.intro (H3.out.1.next hb4) (And.intro (H3.out.2.1.below hb4) H3.out.2.2)); clear hb4)
      | ((with_reducible refine wp_load_row' rfl 33 _ rfl Try.underlying33 rfl ?_); refine ⟨_, _, _, rfl, H4.out.2.1, Try.info_mvB _ _ _ _ _, ?_⟩)
      | ((with_reducible refine wp_load_row' rfl 33 _ rfl Try.underlying33 rfl ?_); refine ⟨_, _, _, rfl, H3.out.2.1, Try.info_mvB _ _ _ _ _, ?_⟩)
      | ((with_reducible refine wp_store_row' rfl 33 _ _ rfl ?_); refine ⟨w.heap.size + 1, 33, movC 4 tg 0 0 true, rfl, rfl, ⟨_, H4.out.1.res.heap, (by kernel_rfl)⟩, Try.info_mvB _ _ _ _ _, Try.one_mvB _ _ _ _ _, ?_⟩; intro W9 hP9 hq9; have HB := Lib.hid (hP9.below H4.out.1.below (Nat.le_succ _)))
      | ((with_reducible refine wp_store_row' rfl 33 _ _ rfl ?_); refine ⟨w.heap.size + 1, 33, movC 4 tg 0 0 true, rfl, rfl, ⟨_, H3.out.1.res.heap, (by kernel_rfl)⟩, Try.info_mvB _ _ _ _ _, Try.one_mvB _ _ _ _ _, ?_⟩; intro W9 hP9 hq9; have HB := Lib.hid (hP9.below H3.out.1.below (Nat.le_succ _))))
    exact bodyPost_ret (results_mv_tmp Try.results19 _ _ (w.heap.size + 1) 33 _ (0, 0) _ rfl hq9.heap Try.underlying33 rfl (Try.info_mvB _ _ _ _ _)) rfl ⟨by first | rfl | (rw [f0]; rfl) | (rw [f0, E.out]; rfl), HB.out⟩
  cases f3 : (r != 4)
  · have E := Lib.hid (show so = _ by rw [HE.out, f1, f2, f3])
    clear HE
    go_wp2_with (first
      | ((with_reducible refine wp_load_box_g rfl _ rfl ?_); refine ⟨_, c, rfl, H3.out.1.p, ?_⟩)
      | (go_at_call 31; (with_reducible refine (HSt.out _).mono ?_); rintro e w4 ⟨rfl, hb4⟩; have H4 := Lib.hid (And.intro (H3.out.1.next hb4) (And.intro (H3.out.2.1.below hb4) H3.out.2.2)); clear hb4)
      | ((with_reducible refine wp_load_row' rfl 33 _ rfl Try.underlying33 rfl ?_); refine ⟨_, _, _, rfl, H4.out.2.1, Try.info_mvB _ _ _ _ _, ?_⟩)
      | ((with_reducible refine wp_load_row' rfl 33 _ rfl Try.underlying33 rfl ?_); refine ⟨_, _, _, rfl, H3.out.2.1, Try.info_mvB _ _ _ _ _, ?_⟩)
      | ((with_reducible refine wp_store_row' rfl 33 _ _ rfl ?_); refine ⟨w.heap.size + 1, 33, movC 4 tg 0 0 true, rfl, rfl, ⟨_, H4.out.1.res.heap, (by kernel_rfl)⟩, Try.info_mvB _ _ _ _ _, Try.one_mvB _ _ _ _ _, ?_⟩; intro W9 hP9 hq9; have HB := Lib.hid (hP9.below H4.out.1.below (Nat.le_succ _)))
      | ((with_reducible refine wp_store_row' rfl 33 _ _ rfl ?_); refine ⟨w.heap.size + 1, 33, movC 4 tg 0 0 true, rfl, rfl, ⟨_, H3.out.1.res.heap, (by kernel_rfl)⟩, Try.info_mvB _ _ _ _ _, Try.one_mvB _ _ _ _ _, ?_⟩; intro W9 hP9 hq9; have HB := Lib.hid (hP9.below H3.out.1.below (Nat.le_succ _))))
    exact bodyPost_ret (results_mv_tmp Try.results19 _ _ (w.heap.size + 1) 33 _ (0, 0) _ rfl hq9.heap Try.underlying33 rfl (Try.info_mvB _ _ _ _ _)) rfl ⟨by first | rfl | (rw [f0]; rfl) | (rw [f0, E.out]; rfl), HB.out⟩
  cases f4 : decide (4 < r)
  · have E := Lib.hid (show so = _ by rw [HE.out, f1, f2, f3, f4])
    clear HE
    go_wp2_with (first
      | ((with_reducible refine wp_load_box_g rfl _ rfl ?_); refine ⟨_, c, rfl, H3.out.1.p, ?_⟩)
      | (go_at_call 31; (with_reducible refine (HSt.out _).mono ?_); rintro e w4 ⟨rfl, hb4⟩; have H4 := Lib.hid (And.intro (H3.out.1.next hb4) (And.intro (H3.out.2.1.below hb4) H3.out.2.2)); clear hb4)
      | ((with_reducible refine wp_load_row' rfl 33 _ rfl Try.underlying33 rfl ?_); refine ⟨_, _, _, rfl, H4.out.2.1, Try.info_mvB _ _ _ _ _, ?_⟩)
      | ((with_reducible refine wp_load_row' rfl 33 _ rfl Try.underlying33 rfl ?_); refine ⟨_, _, _, rfl, H3.out.2.1, Try.info_mvB _ _ _ _ _, ?_⟩)
      | ((with_reducible refine wp_store_row' rfl 33 _ _ rfl ?_); refine ⟨w.heap.size + 1, 33, movC 4 tg 0 0 true, rfl, rfl, ⟨_, H4.out.1.res.heap, (by kernel_rfl)⟩, Try.info_mvB _ _ _ _ _, Try.one_mvB _ _ _ _ _, ?_⟩; intro W9 hP9 hq9; have HB := Lib.hid (hP9.below H4.out.1.below (Nat.le_succ _)))
      | ((with_reducible refine wp_store_row' rfl 33 _ _ rfl ?_); refine ⟨w.heap.size + 1, 33, movC 4 tg 0 0 true, rfl, rfl, ⟨_, H3.out.1.res.heap, (by kernel_rfl)⟩, Try.info_mvB _ _ _ _ _, Try.one_mvB _ _ _ _ _, ?_⟩; intro W9 hP9 hq9; have HB := Lib.hid (hP9.below H3.out.1.below (Nat.le_succ _))))
    exact bodyPost_ret (results_mv_tmp Try.results19 _ _ (w.heap.size + 1) 33 _ (0, 0) _ rfl hq9.heap Try.underlying33 rfl (Try.info_mvB _ _ _ _ _)) rfl ⟨by first | rfl | (rw [f0]; rfl) | (rw [f0, E.out]; rfl), HB.out⟩
  · have E := Lib.hid (show so = _ by rw [HE.out, f1, f2, f3, f4])
    clear HE
    go_wp2_with (first
      | ((with_reducible refine wp_load_box_g rfl _ rfl ?_); refine ⟨_, c, rfl, H3.out.1.p, ?_⟩)
      | (go_at_call 31; (with_reducible refine (HSt.out _).mono ?_); rintro e w4 ⟨rfl, hb4⟩; have H4 := Lib.hid (And.intro (H3.out.1.next hb4) (And.intro (H3.out.2.1.below hb4) H3.out.2.2)); clear hb4)
      | ((with_reducible refine wp_load_row' rfl 33 _ rfl Try.underlying33 rfl ?_); refine ⟨_, _, _, rfl, H4.out.2.1, Try.info_mvB _ _ _ _ _, ?_⟩)
      | ((with_reducible refine wp_load_row' rfl 33 _ rfl Try.underlying33 rfl ?_); refine ⟨_, _, _, rfl, H3.out.2.1, Try.info_mvB _ _ _ _ _, ?_⟩)
      | ((with_reducible refine wp_store_row' rfl 33 _ _ rfl ?_); refine ⟨w.heap.size + 1, 33, movC 4 tg 0 0 true, rfl, rfl, ⟨_, H4.out.1.res.heap, (by kernel_rfl)⟩, Try.info_mvB _ _ _ _ _, Try.one_mvB _ _ _ _ _, ?_⟩; intro W9 hP9 hq9; have HB := Lib.hid (hP9.below H4.out.1.below (Nat.le_succ _)))
      | ((with_reducible refine wp_store_row' rfl 33 _ _ rfl ?_); refine ⟨w.heap.size + 1, 33, movC 4 tg 0 0 true, rfl, rfl, ⟨_, H3.out.1.res.heap, (by kernel_rfl)⟩, Try.info_mvB _ _ _ _ _, Try.one_mvB _ _ _ _ _, ?_⟩; intro W9 hP9 hq9; have HB := Lib.hid (hP9.below H3.out.1.below (Nat.le_succ _))))
    exact bodyPost_ret (results_mv_tmp Try.results19 _ _ (w.heap.size + 1) 33 _ (0, 0) _ rfl hq9.heap Try.underlying33 rfl (Try.info_mvB _ _ _ _ _)) rfl ⟨by first | rfl | (rw [f0]; rfl) | (rw [f0, E.out]; rfl), HB.out⟩

set_option maxRecDepth 100000 in
set_option maxHeartbeats 2000000 in
theorem mvcastling_01 (c : Nat → Int) (w : World) (ht : c 78 = 0) :
    Calls Try.prog 19 #[.agg (posC c), .int .i64 1] w fun e w' => e = .returned (.tuple #[.agg (movC 4 (IntKind.i8.wrap (0 + c 80)) 0 0 true), .bool (c 0 != 1 && N.sideOk c 1)]) ∧ Below w.heap.size w w' := by
  have h0 : MvRes w w.heap.size c ((w.alloc (.cells (posC c) 31)).alloc (.cells #[.int .i8 0, .int .i8 0, .int .u8 0, .int .u8 0, .bool false] 33)) :=
    ⟨(PosAt.new w c).alloc _, by have := RowAt.new (w.alloc (.cells (posC c) 31)) #[.int .i8 0, .int .i8 0, .int .u8 0, .int .u8 0, .bool false] 33; rwa [World.size_alloc] at this, ((Below.refl _ _).alloc (Nat.le_refl _) _).alloc (by simp) _⟩
  have HHo : Hid (∀ W, Calls Try.prog 33 #[.agg (posC c)] W fun e w' => e = .returned (.int .i8 0) ∧ Below W.heap.size W w') := Lib.hid (fun W => by
    have := mvhome_any c W (by omega)
    rwa [show ((N.home c : Nat) : Int) = 0 by unfold N.home; rw [ht]; rfl] at this)
  have HSt : Hid (∀ W, Calls Try.prog 31 #[.agg (posC c), .int .i8 4, .int .u8 6] W fun e w' => e = .returned (.bool (N.king c 4)) ∧ Below W.heap.size W w') := Lib.hid (fun W => stands_walk c 4 6 W (by decide) (by omega) (by omega) (by decide) (by decide))
  have HE := Lib.hid (show N.sideOk c 1 = (N.king c 4 && (decide (0 ≤ c 80) && (decide (c 80 < 8) && (c 80 != 4 && (decide (4 < c 80) == false))))) by unfold N.sideOk N.home N.rk; rw [ht]; rfl)
  have c78 := h0.p.cell (i := 78) (by decide)
  have cr := h0.p.cell (i := 80) (by decide)
  rw [show pk 78 = .u8 from rfl, ht] at c78
  rw [show pk 80 = .i8 from rfl] at cr
  have lb := h0.p.lt
  have hs0 : ((w.alloc (.cells (posC c) 31)).alloc (.cells #[.int .i8 0, .int .i8 0, .int .u8 0, .int .u8 0, .bool false] 33)).heap.size = w.heap.size + 2 := by simp
  have H0 := Lib.hid h0
  clear h0 ht
  obtain ⟨r, hr⟩ : ∃ r, c 80 = r := ⟨_, rfl⟩
  obtain ⟨st, hst⟩ : ∃ s, N.king c 4 = s := ⟨_, rfl⟩
  obtain ⟨so, hso⟩ : ∃ s, N.sideOk c 1 = s := ⟨_, rfl⟩
  rw [hr, hst, hso] at HE
  rw [hr] at cr ⊢
  rw [hst] at HSt
  rw [hso]
  obtain ⟨tg, htg⟩ : ∃ x, IntKind.i8.wrap (0 + r) = x := ⟨_, rfl⟩
  rw [htg]
  clear hr hst hso
  rw [Int.zero_add] at htg
  go_enter Try.func19, Try.ntmps19
  go_upto_region 1 with fail
  refine region_below (by kernel_rfl) (by kernel_rfl) ?_
  try simp only [Act.put]
  repeat (first
    | (go_big_quiet_want; refine quiet_load_mvp _ rfl ⟨_, c, rfl, H0.out.p, ?_⟩; simp only [Act.put, List.setIfInBounds_toArray, List.set_cons_succ, List.set_cons_zero]; go_big_quiet_on)
    | go_big_quiet_step (first
      | (go_at_call 33; (with_reducible exact quiet_below (HHo.out _)))))
  refine wpQuiet_nil ?_
  intro w1 hb1
  have H1 := Lib.hid (H0.out.next hb1)
  clear hb1 H0 c78 cr lb hs0
  go_upto_region 3 with (first
    | ((with_reducible refine wp_load_box rfl _ rfl ?_); refine ⟨_, c, rfl, H1.out.p, ?_⟩)
    | (go_at_call 33; (with_reducible refine (HHo.out _).mono ?_); rintro e w2 ⟨rfl, hb2⟩; have H2 := Lib.hid (H1.out.next hb2); clear hb2)
    | ((with_reducible refine wp_store_row' rfl 33 _ _ rfl ?_); refine ⟨w2.heap.size, 33, movC 4 tg 0 0 true, rfl, rfl, ⟨_, heap_alloc_new _ _, (by kernel_rfl)⟩, Try.info_mvB _ _ _ _ _, Try.one_mvB _ _ _ _ _, ?_⟩; intro W3 hP hq; have H3 := Lib.hid (And.intro ((H2.out.next ((Below.refl _ _).alloc (Nat.le_refl _) _)).other hP H2.out.res.lt) (And.intro hq H2.out.res.lt)); clear hP hq))
  obtain ⟨b, hb⟩ : ∃ b, w2.heap.size = b := ⟨_, rfl⟩
  rw [hb] at H3 ⊢
  clear hb H2 H1
  have c0 := H3.out.1.p.cell (i := 0) (by decide)
  rw [show pk 0 = .u8 from rfl] at c0
  have HM := Lib.hid (show ∀ x y z, movC x y 0 0 z = movC x y 0 0 z from fun _ _ _ => rfl)
  cases f0 : (c 0 != 1)
  · have E := Lib.hid (show so = so from rfl)
    clear HE
    go_wp2_with (first
      | ((with_reducible refine wp_load_box_g rfl _ rfl ?_); refine ⟨_, c, rfl, H3.out.1.p, ?_⟩)
      | (go_at_call 31; (with_reducible refine (HSt.out _).mono ?_); rintro e w4 ⟨rfl, hb4⟩; have H4 := Lib.hid (And.intro (H3.out.1.next hb4) (And.intro (H3.out.2.1.below hb4) H3.out.2.2)); clear hb4)
      | ((with_reducible refine wp_load_row' rfl 33 _ rfl Try.underlying33 rfl ?_); refine ⟨_, _, _, rfl, H4.out.2.1, Try.info_mvB _ _ _ _ _, ?_⟩)
      | ((with_reducible refine wp_load_row' rfl 33 _ rfl Try.underlying33 rfl ?_); refine ⟨_, _, _, rfl, H3.out.2.1, Try.info_mvB _ _ _ _ _, ?_⟩)
      | ((with_reducible refine wp_store_row' rfl 33 _ _ rfl ?_); refine ⟨w.heap.size + 1, 33, movC 4 tg 0 0 true, rfl, rfl, ⟨_, H4.out.1.res.heap, (by kernel_rfl)⟩, Try.info_mvB _ _ _ _ _, Try.one_mvB _ _ _ _ _, ?_⟩; intro W9 hP9 hq9; have HB := Lib.hid (hP9.below H4.out.1.below (Nat.le_succ _)))
      | ((with_reducible refine wp_store_row' rfl 33 _ _ rfl ?_); refine ⟨w.heap.size + 1, 33, movC 4 tg 0 0 true, rfl, rfl, ⟨_, H3.out.1.res.heap, (by kernel_rfl)⟩, Try.info_mvB _ _ _ _ _, Try.one_mvB _ _ _ _ _, ?_⟩; intro W9 hP9 hq9; have HB := Lib.hid (hP9.below H3.out.1.below (Nat.le_succ _))))
    exact bodyPost_ret (results_mv_tmp Try.results19 _ _ (w.heap.size + 1) 33 _ (0, 0) _ rfl hq9.heap Try.underlying33 rfl (Try.info_mvB _ _ _ _ _)) rfl ⟨by first | rfl | (rw [f0]; rfl) | (rw [f0, E.out]; rfl), HB.out⟩
  cases st
  · have E := Lib.hid (show so = _ by rw [HE.out])
    clear HE
    go_wp2_with (first
      | ((with_reducible refine wp_load_box_g rfl _ rfl ?_); refine ⟨_, c, rfl, H3.out.1.p, ?_⟩)
      | (go_at_call 31; (with_reducible refine (HSt.out _).mono ?_); rintro e w4 ⟨rfl, hb4⟩; have H4 := Lib.hid (And.intro (H3.out.1.next hb4) (And.intro (H3.out.2.1.below hb4) H3.out.2.2)); clear hb4)
      | ((with_reducible refine wp_load_row' rfl 33 _ rfl Try.underlying33 rfl ?_); refine ⟨_, _, _, rfl, H4.out.2.1, Try.info_mvB _ _ _ _ _, ?_⟩)
      | ((with_reducible refine wp_load_row' rfl 33 _ rfl Try.underlying33 rfl ?_); refine ⟨_, _, _, rfl, H3.out.2.1, Try.info_mvB _ _ _ _ _, ?_⟩)
      | ((with_reducible refine wp_store_row' rfl 33 _ _ rfl ?_); refine ⟨w.heap.size + 1, 33, movC 4 tg 0 0 true, rfl, rfl, ⟨_, H4.out.1.res.heap, (by kernel_rfl)⟩, Try.info_mvB _ _ _ _ _, Try.one_mvB _ _ _ _ _, ?_⟩; intro W9 hP9 hq9; have HB := Lib.hid (hP9.below H4.out.1.below (Nat.le_succ _)))
      | ((with_reducible refine wp_store_row' rfl 33 _ _ rfl ?_); refine ⟨w.heap.size + 1, 33, movC 4 tg 0 0 true, rfl, rfl, ⟨_, H3.out.1.res.heap, (by kernel_rfl)⟩, Try.info_mvB _ _ _ _ _, Try.one_mvB _ _ _ _ _, ?_⟩; intro W9 hP9 hq9; have HB := Lib.hid (hP9.below H3.out.1.below (Nat.le_succ _))))
    exact bodyPost_ret (results_mv_tmp Try.results19 _ _ (w.heap.size + 1) 33 _ (0, 0) _ rfl hq9.heap Try.underlying33 rfl (Try.info_mvB _ _ _ _ _)) rfl ⟨by first | rfl | (rw [f0]; rfl) | (rw [f0, E.out]; rfl), HB.out⟩
  cases f1 : decide (0 ≤ r)
  · have E := Lib.hid (show so = _ by rw [HE.out, f1])
    clear HE
    go_wp2_with (first
      | ((with_reducible refine wp_load_box_g rfl _ rfl ?_); refine ⟨_, c, rfl, H3.out.1.p, ?_⟩)
      | (go_at_call 31; (with_reducible refine (HSt.out _).mono ?_); rintro e w4 ⟨rfl, hb4⟩; have H4 := Lib.hid (And.intro (H3.out.1.next hb4) (And.intro (H3.out.2.1.below hb4) H3.out.2.2)); clear hb4)
      | ((with_reducible refine wp_load_row' rfl 33 _ rfl Try.underlying33 rfl ?_); refine ⟨_, _, _, rfl, H4.out.2.1, Try.info_mvB _ _ _ _ _, ?_⟩)
      | ((with_reducible refine wp_load_row' rfl 33 _ rfl Try.underlying33 rfl ?_); refine ⟨_, _, _, rfl, H3.out.2.1, Try.info_mvB _ _ _ _ _, ?_⟩)
      | ((with_reducible refine wp_store_row' rfl 33 _ _ rfl ?_); refine ⟨w.heap.size + 1, 33, movC 4 tg 0 0 true, rfl, rfl, ⟨_, H4.out.1.res.heap, (by kernel_rfl)⟩, Try.info_mvB _ _ _ _ _, Try.one_mvB _ _ _ _ _, ?_⟩; intro W9 hP9 hq9; have HB := Lib.hid (hP9.below H4.out.1.below (Nat.le_succ _)))
      | ((with_reducible refine wp_store_row' rfl 33 _ _ rfl ?_); refine ⟨w.heap.size + 1, 33, movC 4 tg 0 0 true, rfl, rfl, ⟨_, H3.out.1.res.heap, (by kernel_rfl)⟩, Try.info_mvB _ _ _ _ _, Try.one_mvB _ _ _ _ _, ?_⟩; intro W9 hP9 hq9; have HB := Lib.hid (hP9.below H3.out.1.below (Nat.le_succ _))))
    exact bodyPost_ret (results_mv_tmp Try.results19 _ _ (w.heap.size + 1) 33 _ (0, 0) _ rfl hq9.heap Try.underlying33 rfl (Try.info_mvB _ _ _ _ _)) rfl ⟨by first | rfl | (rw [f0]; rfl) | (rw [f0, E.out]; rfl), HB.out⟩
  cases f2 : decide (r < 8)
  · have E := Lib.hid (show so = _ by rw [HE.out, f1, f2])
    clear HE
    go_wp2_with (first
      | ((with_reducible refine wp_load_box_g rfl _ rfl ?_); refine ⟨_, c, rfl, H3.out.1.p, ?_⟩)
      | (go_at_call 31; (with_reducible refine (HSt.out _).mono ?_); rintro e w4 ⟨rfl, hb4⟩; have H4 := Lib.hid (And.intro (H3.out.1.next hb4) (And.intro (H3.out.2.1.below hb4) H3.out.2.2)); clear hb4)
      | ((with_reducible refine wp_load_row' rfl 33 _ rfl Try.underlying33 rfl ?_); refine ⟨_, _, _, rfl, H4.out.2.1, Try.info_mvB _ _ _ _ _, ?_⟩)
      | ((with_reducible refine wp_load_row' rfl 33 _ rfl Try.underlying33 rfl ?_); refine ⟨_, _, _, rfl, H3.out.2.1, Try.info_mvB _ _ _ _ _, ?_⟩)
      | ((with_reducible refine wp_store_row' rfl 33 _ _ rfl ?_); refine ⟨w.heap.size + 1, 33, movC 4 tg 0 0 true, rfl, rfl, ⟨_, H4.out.1.res.heap, (by kernel_rfl)⟩, Try.info_mvB _ _ _ _ _, Try.one_mvB _ _ _ _ _, ?_⟩; intro W9 hP9 hq9; have HB := Lib.hid (hP9.below H4.out.1.below (Nat.le_succ _)))
      | ((with_reducible refine wp_store_row' rfl 33 _ _ rfl ?_); refine ⟨w.heap.size + 1, 33, movC 4 tg 0 0 true, rfl, rfl, ⟨_, H3.out.1.res.heap, (by kernel_rfl)⟩, Try.info_mvB _ _ _ _ _, Try.one_mvB _ _ _ _ _, ?_⟩; intro W9 hP9 hq9; have HB := Lib.hid (hP9.below H3.out.1.below (Nat.le_succ _))))
    exact bodyPost_ret (results_mv_tmp Try.results19 _ _ (w.heap.size + 1) 33 _ (0, 0) _ rfl hq9.heap Try.underlying33 rfl (Try.info_mvB _ _ _ _ _)) rfl ⟨by first | rfl | (rw [f0]; rfl) | (rw [f0, E.out]; rfl), HB.out⟩
  cases f3 : (r != 4)
  · have E := Lib.hid (show so = _ by rw [HE.out, f1, f2, f3])
    clear HE
    go_wp2_with (first
      | ((with_reducible refine wp_load_box_g rfl _ rfl ?_); refine ⟨_, c, rfl, H3.out.1.p, ?_⟩)
      | (go_at_call 31; (with_reducible refine (HSt.out _).mono ?_); rintro e w4 ⟨rfl, hb4⟩; have H4 := Lib.hid (And.intro (H3.out.1.next hb4) (And.intro (H3.out.2.1.below hb4) H3.out.2.2)); clear hb4)
      | ((with_reducible refine wp_load_row' rfl 33 _ rfl Try.underlying33 rfl ?_); refine ⟨_, _, _, rfl, H4.out.2.1, Try.info_mvB _ _ _ _ _, ?_⟩)
      | ((with_reducible refine wp_load_row' rfl 33 _ rfl Try.underlying33 rfl ?_); refine ⟨_, _, _, rfl, H3.out.2.1, Try.info_mvB _ _ _ _ _, ?_⟩)
      | ((with_reducible refine wp_store_row' rfl 33 _ _ rfl ?_); refine ⟨w.heap.size + 1, 33, movC 4 tg 0 0 true, rfl, rfl, ⟨_, H4.out.1.res.heap, (by kernel_rfl)⟩, Try.info_mvB _ _ _ _ _, Try.one_mvB _ _ _ _ _, ?_⟩; intro W9 hP9 hq9; have HB := Lib.hid (hP9.below H4.out.1.below (Nat.le_succ _)))
      | ((with_reducible refine wp_store_row' rfl 33 _ _ rfl ?_); refine ⟨w.heap.size + 1, 33, movC 4 tg 0 0 true, rfl, rfl, ⟨_, H3.out.1.res.heap, (by kernel_rfl)⟩, Try.info_mvB _ _ _ _ _, Try.one_mvB _ _ _ _ _, ?_⟩; intro W9 hP9 hq9; have HB := Lib.hid (hP9.below H3.out.1.below (Nat.le_succ _))))
    exact bodyPost_ret (results_mv_tmp Try.results19 _ _ (w.heap.size + 1) 33 _ (0, 0) _ rfl hq9.heap Try.underlying33 rfl (Try.info_mvB _ _ _ _ _)) rfl ⟨by first | rfl | (rw [f0]; rfl) | (rw [f0, E.out]; rfl), HB.out⟩
  cases f4 : decide (4 < r)
  · have E := Lib.hid (show so = _ by rw [HE.out, f1, f2, f3, f4])
    clear HE
    go_wp2_with (first
      | ((with_reducible refine wp_load_box_g rfl _ rfl ?_); refine ⟨_, c, rfl, H3.out.1.p, ?_⟩)
      | (go_at_call 31; (with_reducible refine (HSt.out _).mono ?_); rintro e w4 ⟨rfl, hb4⟩; have H4 := Lib.hid (And.intro (H3.out.1.next hb4) (And.intro (H3.out.2.1.below hb4) H3.out.2.2)); clear hb4)
      | ((with_reducible refine wp_load_row' rfl 33 _ rfl Try.underlying33 rfl ?_); refine ⟨_, _, _, rfl, H4.out.2.1, Try.info_mvB _ _ _ _ _, ?_⟩)
      | ((with_reducible refine wp_load_row' rfl 33 _ rfl Try.underlying33 rfl ?_); refine ⟨_, _, _, rfl, H3.out.2.1, Try.info_mvB _ _ _ _ _, ?_⟩)
      | ((with_reducible refine wp_store_row' rfl 33 _ _ rfl ?_); refine ⟨w.heap.size + 1, 33, movC 4 tg 0 0 true, rfl, rfl, ⟨_, H4.out.1.res.heap, (by kernel_rfl)⟩, Try.info_mvB _ _ _ _ _, Try.one_mvB _ _ _ _ _, ?_⟩; intro W9 hP9 hq9; have HB := Lib.hid (hP9.below H4.out.1.below (Nat.le_succ _)))
      | ((with_reducible refine wp_store_row' rfl 33 _ _ rfl ?_); refine ⟨w.heap.size + 1, 33, movC 4 tg 0 0 true, rfl, rfl, ⟨_, H3.out.1.res.heap, (by kernel_rfl)⟩, Try.info_mvB _ _ _ _ _, Try.one_mvB _ _ _ _ _, ?_⟩; intro W9 hP9 hq9; have HB := Lib.hid (hP9.below H3.out.1.below (Nat.le_succ _))))
    exact bodyPost_ret (results_mv_tmp Try.results19 _ _ (w.heap.size + 1) 33 _ (0, 0) _ rfl hq9.heap Try.underlying33 rfl (Try.info_mvB _ _ _ _ _)) rfl ⟨by first | rfl | (rw [f0]; rfl) | (rw [f0, E.out]; rfl), HB.out⟩
  · have E := Lib.hid (show so = _ by rw [HE.out, f1, f2, f3, f4])
    clear HE
    go_wp2_with (first
      | ((with_reducible refine wp_load_box_g rfl _ rfl ?_); refine ⟨_, c, rfl, H3.out.1.p, ?_⟩)
      | (go_at_call 31; (with_reducible refine (HSt.out _).mono ?_); rintro e w4 ⟨rfl, hb4⟩; have H4 := Lib.hid (And.intro (H3.out.1.next hb4) (And.intro (H3.out.2.1.below hb4) H3.out.2.2)); clear hb4)
      | ((with_reducible refine wp_load_row' rfl 33 _ rfl Try.underlying33 rfl ?_); refine ⟨_, _, _, rfl, H4.out.2.1, Try.info_mvB _ _ _ _ _, ?_⟩)
      | ((with_reducible refine wp_load_row' rfl 33 _ rfl Try.underlying33 rfl ?_); refine ⟨_, _, _, rfl, H3.out.2.1, Try.info_mvB _ _ _ _ _, ?_⟩)
      | ((with_reducible refine wp_store_row' rfl 33 _ _ rfl ?_); refine ⟨w.heap.size + 1, 33, movC 4 tg 0 0 true, rfl, rfl, ⟨_, H4.out.1.res.heap, (by kernel_rfl)⟩, Try.info_mvB _ _ _ _ _, Try.one_mvB _ _ _ _ _, ?_⟩; intro W9 hP9 hq9; have HB := Lib.hid (hP9.below H4.out.1.below (Nat.le_succ _)))
      | ((with_reducible refine wp_store_row' rfl 33 _ _ rfl ?_); refine ⟨w.heap.size + 1, 33, movC 4 tg 0 0 true, rfl, rfl, ⟨_, H3.out.1.res.heap, (by kernel_rfl)⟩, Try.info_mvB _ _ _ _ _, Try.one_mvB _ _ _ _ _, ?_⟩; intro W9 hP9 hq9; have HB := Lib.hid (hP9.below H3.out.1.below (Nat.le_succ _))))
    exact bodyPost_ret (results_mv_tmp Try.results19 _ _ (w.heap.size + 1) 33 _ (0, 0) _ rfl hq9.heap Try.underlying33 rfl (Try.info_mvB _ _ _ _ _)) rfl ⟨by first | rfl | (rw [f0]; rfl) | (rw [f0, E.out]; rfl), HB.out⟩

set_option maxRecDepth 100000 in
set_option maxHeartbeats 2000000 in
theorem mvcastling_10 (c : Nat → Int) (w : World) (ht : c 78 = 1) :
    Calls Try.prog 19 #[.agg (posC c), .int .i64 0] w fun e w' => e = .returned (.tuple #[.agg (movC 60 (IntKind.i8.wrap (56 + c 81)) 0 0 true), .bool (c 0 != 1 && N.sideOk c 0)]) ∧ Below w.heap.size w w' := by
  have h0 : MvRes w w.heap.size c ((w.alloc (.cells (posC c) 31)).alloc (.cells #[.int .i8 0, .int .i8 0, .int .u8 0, .int .u8 0, .bool false] 33)) :=
    ⟨(PosAt.new w c).alloc _, by have := RowAt.new (w.alloc (.cells (posC c) 31)) #[.int .i8 0, .int .i8 0, .int .u8 0, .int .u8 0, .bool false] 33; rwa [World.size_alloc] at this, ((Below.refl _ _).alloc (Nat.le_refl _) _).alloc (by simp) _⟩
  have HHo : Hid (∀ W, Calls Try.prog 33 #[.agg (posC c)] W fun e w' => e = .returned (.int .i8 56) ∧ Below W.heap.size W w') := Lib.hid (fun W => by
    have := mvhome_any c W (by omega)
    rwa [show ((N.home c : Nat) : Int) = 56 by unfold N.home; rw [ht]; rfl] at this)
  have HSt : Hid (∀ W, Calls Try.prog 31 #[.agg (posC c), .int .i8 60, .int .u8 6] W fun e w' => e = .returned (.bool (N.king c 60)) ∧ Below W.heap.size W w') := Lib.hid (fun W => stands_walk c 60 6 W (by decide) (by omega) (by omega) (by decide) (by decide))
  have HE := Lib.hid (show N.sideOk c 0 = (N.king c 60 && (decide (0 ≤ c 81) && (decide (c 81 < 8) && (c 81 != 4 && (decide (4 < c 81) == true))))) by unfold N.sideOk N.home N.rk; rw [ht]; rfl)
  have c78 := h0.p.cell (i := 78) (by decide)
  have cr := h0.p.cell (i := 81) (by decide)
  rw [show pk 78 = .u8 from rfl, ht] at c78
  rw [show pk 81 = .i8 from rfl] at cr
  have lb := h0.p.lt
  have hs0 : ((w.alloc (.cells (posC c) 31)).alloc (.cells #[.int .i8 0, .int .i8 0, .int .u8 0, .int .u8 0, .bool false] 33)).heap.size = w.heap.size + 2 := by simp
  have H0 := Lib.hid h0
  clear h0 ht
  obtain ⟨r, hr⟩ : ∃ r, c 81 = r := ⟨_, rfl⟩
  obtain ⟨st, hst⟩ : ∃ s, N.king c 60 = s := ⟨_, rfl⟩
  obtain ⟨so, hso⟩ : ∃ s, N.sideOk c 0 = s := ⟨_, rfl⟩
  rw [hr, hst, hso] at HE
  rw [hr] at cr ⊢
  rw [hst] at HSt
  rw [hso]
  obtain ⟨tg, htg⟩ : ∃ x, IntKind.i8.wrap (56 + r) = x := ⟨_, rfl⟩
  rw [htg]
  clear hr hst hso

  go_enter Try.func19, Try.ntmps19
  go_upto_region 1 with fail
  refine region_below (by kernel_rfl) (by kernel_rfl) ?_
  try simp only [Act.put]
  repeat (first
    | (go_big_quiet_want; refine quiet_load_mvp _ rfl ⟨_, c, rfl, H0.out.p, ?_⟩; simp only [Act.put, List.setIfInBounds_toArray, List.set_cons_succ, List.set_cons_zero]; go_big_quiet_on)
    | go_big_quiet_step (first
      | (go_at_call 33; (with_reducible exact quiet_below (HHo.out _)))))
  refine wpQuiet_nil ?_
  intro w1 hb1
  have H1 := Lib.hid (H0.out.next hb1)
  clear hb1 H0 c78 cr lb hs0
  go_upto_region 3 with (first
    | ((with_reducible refine wp_load_box rfl _ rfl ?_); refine ⟨_, c, rfl, H1.out.p, ?_⟩)
    | (go_at_call 33; (with_reducible refine (HHo.out _).mono ?_); rintro e w2 ⟨rfl, hb2⟩; have H2 := Lib.hid (H1.out.next hb2); clear hb2)
    | ((with_reducible refine wp_store_row' rfl 33 _ _ rfl ?_); refine ⟨w2.heap.size, 33, movC 60 tg 0 0 true, rfl, rfl, ⟨_, heap_alloc_new _ _, (by kernel_rfl)⟩, Try.info_mvB _ _ _ _ _, Try.one_mvB _ _ _ _ _, ?_⟩; intro W3 hP hq; have H3 := Lib.hid (And.intro ((H2.out.next ((Below.refl _ _).alloc (Nat.le_refl _) _)).other hP H2.out.res.lt) (And.intro hq H2.out.res.lt)); clear hP hq))
  obtain ⟨b, hb⟩ : ∃ b, w2.heap.size = b := ⟨_, rfl⟩
  rw [hb] at H3 ⊢
  clear hb H2 H1
  have c0 := H3.out.1.p.cell (i := 0) (by decide)
  rw [show pk 0 = .u8 from rfl] at c0
  have HM := Lib.hid (show ∀ x y z, movC x y 0 0 z = movC x y 0 0 z from fun _ _ _ => rfl)
  cases f0 : (c 0 != 1)
  · have E := Lib.hid (show so = so from rfl)
    clear HE
    go_wp2_with (first
      | ((with_reducible refine wp_load_box_g rfl _ rfl ?_); refine ⟨_, c, rfl, H3.out.1.p, ?_⟩)
      | (go_at_call 31; (with_reducible refine (HSt.out _).mono ?_); rintro e w4 ⟨rfl, hb4⟩; have H4 := Lib.hid (And.intro (H3.out.1.next hb4) (And.intro (H3.out.2.1.below hb4) H3.out.2.2)); clear hb4)
      | ((with_reducible refine wp_load_row' rfl 33 _ rfl Try.underlying33 rfl ?_); refine ⟨_, _, _, rfl, H4.out.2.1, Try.info_mvB _ _ _ _ _, ?_⟩)
      | ((with_reducible refine wp_load_row' rfl 33 _ rfl Try.underlying33 rfl ?_); refine ⟨_, _, _, rfl, H3.out.2.1, Try.info_mvB _ _ _ _ _, ?_⟩)
      | ((with_reducible refine wp_store_row' rfl 33 _ _ rfl ?_); refine ⟨w.heap.size + 1, 33, movC 60 tg 0 0 true, rfl, rfl, ⟨_, H4.out.1.res.heap, (by kernel_rfl)⟩, Try.info_mvB _ _ _ _ _, Try.one_mvB _ _ _ _ _, ?_⟩; intro W9 hP9 hq9; have HB := Lib.hid (hP9.below H4.out.1.below (Nat.le_succ _)))
      | ((with_reducible refine wp_store_row' rfl 33 _ _ rfl ?_); refine ⟨w.heap.size + 1, 33, movC 60 tg 0 0 true, rfl, rfl, ⟨_, H3.out.1.res.heap, (by kernel_rfl)⟩, Try.info_mvB _ _ _ _ _, Try.one_mvB _ _ _ _ _, ?_⟩; intro W9 hP9 hq9; have HB := Lib.hid (hP9.below H3.out.1.below (Nat.le_succ _))))
    exact bodyPost_ret (results_mv_tmp Try.results19 _ _ (w.heap.size + 1) 33 _ (0, 0) _ rfl hq9.heap Try.underlying33 rfl (Try.info_mvB _ _ _ _ _)) rfl ⟨by first | rfl | (rw [f0]; rfl) | (rw [f0, E.out]; rfl), HB.out⟩
  cases st
  · have E := Lib.hid (show so = _ by rw [HE.out])
    clear HE
    go_wp2_with (first
      | ((with_reducible refine wp_load_box_g rfl _ rfl ?_); refine ⟨_, c, rfl, H3.out.1.p, ?_⟩)
      | (go_at_call 31; (with_reducible refine (HSt.out _).mono ?_); rintro e w4 ⟨rfl, hb4⟩; have H4 := Lib.hid (And.intro (H3.out.1.next hb4) (And.intro (H3.out.2.1.below hb4) H3.out.2.2)); clear hb4)
      | ((with_reducible refine wp_load_row' rfl 33 _ rfl Try.underlying33 rfl ?_); refine ⟨_, _, _, rfl, H4.out.2.1, Try.info_mvB _ _ _ _ _, ?_⟩)
      | ((with_reducible refine wp_load_row' rfl 33 _ rfl Try.underlying33 rfl ?_); refine ⟨_, _, _, rfl, H3.out.2.1, Try.info_mvB _ _ _ _ _, ?_⟩)
      | ((with_reducible refine wp_store_row' rfl 33 _ _ rfl ?_); refine ⟨w.heap.size + 1, 33, movC 60 tg 0 0 true, rfl, rfl, ⟨_, H4.out.1.res.heap, (by kernel_rfl)⟩, Try.info_mvB _ _ _ _ _, Try.one_mvB _ _ _ _ _, ?_⟩; intro W9 hP9 hq9; have HB := Lib.hid (hP9.below H4.out.1.below (Nat.le_succ _)))
      | ((with_reducible refine wp_store_row' rfl 33 _ _ rfl ?_); refine ⟨w.heap.size + 1, 33, movC 60 tg 0 0 true, rfl, rfl, ⟨_, H3.out.1.res.heap, (by kernel_rfl)⟩, Try.info_mvB _ _ _ _ _, Try.one_mvB _ _ _ _ _, ?_⟩; intro W9 hP9 hq9; have HB := Lib.hid (hP9.below H3.out.1.below (Nat.le_succ _))))
    exact bodyPost_ret (results_mv_tmp Try.results19 _ _ (w.heap.size + 1) 33 _ (0, 0) _ rfl hq9.heap Try.underlying33 rfl (Try.info_mvB _ _ _ _ _)) rfl ⟨by first | rfl | (rw [f0]; rfl) | (rw [f0, E.out]; rfl), HB.out⟩
  cases f1 : decide (0 ≤ r)
  · have E := Lib.hid (show so = _ by rw [HE.out, f1])
    clear HE
    go_wp2_with (first
      | ((with_reducible refine wp_load_box_g rfl _ rfl ?_); refine ⟨_, c, rfl, H3.out.1.p, ?_⟩)
      | (go_at_call 31; (with_reducible refine (HSt.out _).mono ?_); rintro e w4 ⟨rfl, hb4⟩; have H4 := Lib.hid (And.intro (H3.out.1.next hb4) (And.intro (H3.out.2.1.below hb4) H3.out.2.2)); clear hb4)
      | ((with_reducible refine wp_load_row' rfl 33 _ rfl Try.underlying33 rfl ?_); refine ⟨_, _, _, rfl, H4.out.2.1, Try.info_mvB _ _ _ _ _, ?_⟩)
      | ((with_reducible refine wp_load_row' rfl 33 _ rfl Try.underlying33 rfl ?_); refine ⟨_, _, _, rfl, H3.out.2.1, Try.info_mvB _ _ _ _ _, ?_⟩)
      | ((with_reducible refine wp_store_row' rfl 33 _ _ rfl ?_); refine ⟨w.heap.size + 1, 33, movC 60 tg 0 0 true, rfl, rfl, ⟨_, H4.out.1.res.heap, (by kernel_rfl)⟩, Try.info_mvB _ _ _ _ _, Try.one_mvB _ _ _ _ _, ?_⟩; intro W9 hP9 hq9; have HB := Lib.hid (hP9.below H4.out.1.below (Nat.le_succ _)))
      | ((with_reducible refine wp_store_row' rfl 33 _ _ rfl ?_); refine ⟨w.heap.size + 1, 33, movC 60 tg 0 0 true, rfl, rfl, ⟨_, H3.out.1.res.heap, (by kernel_rfl)⟩, Try.info_mvB _ _ _ _ _, Try.one_mvB _ _ _ _ _, ?_⟩; intro W9 hP9 hq9; have HB := Lib.hid (hP9.below H3.out.1.below (Nat.le_succ _))))
    exact bodyPost_ret (results_mv_tmp Try.results19 _ _ (w.heap.size + 1) 33 _ (0, 0) _ rfl hq9.heap Try.underlying33 rfl (Try.info_mvB _ _ _ _ _)) rfl ⟨by first | rfl | (rw [f0]; rfl) | (rw [f0, E.out]; rfl), HB.out⟩
  cases f2 : decide (r < 8)
  · have E := Lib.hid (show so = _ by rw [HE.out, f1, f2])
    clear HE
    go_wp2_with (first
      | ((with_reducible refine wp_load_box_g rfl _ rfl ?_); refine ⟨_, c, rfl, H3.out.1.p, ?_⟩)
      | (go_at_call 31; (with_reducible refine (HSt.out _).mono ?_); rintro e w4 ⟨rfl, hb4⟩; have H4 := Lib.hid (And.intro (H3.out.1.next hb4) (And.intro (H3.out.2.1.below hb4) H3.out.2.2)); clear hb4)
      | ((with_reducible refine wp_load_row' rfl 33 _ rfl Try.underlying33 rfl ?_); refine ⟨_, _, _, rfl, H4.out.2.1, Try.info_mvB _ _ _ _ _, ?_⟩)
      | ((with_reducible refine wp_load_row' rfl 33 _ rfl Try.underlying33 rfl ?_); refine ⟨_, _, _, rfl, H3.out.2.1, Try.info_mvB _ _ _ _ _, ?_⟩)
      | ((with_reducible refine wp_store_row' rfl 33 _ _ rfl ?_); refine ⟨w.heap.size + 1, 33, movC 60 tg 0 0 true, rfl, rfl, ⟨_, H4.out.1.res.heap, (by kernel_rfl)⟩, Try.info_mvB _ _ _ _ _, Try.one_mvB _ _ _ _ _, ?_⟩; intro W9 hP9 hq9; have HB := Lib.hid (hP9.below H4.out.1.below (Nat.le_succ _)))
      | ((with_reducible refine wp_store_row' rfl 33 _ _ rfl ?_); refine ⟨w.heap.size + 1, 33, movC 60 tg 0 0 true, rfl, rfl, ⟨_, H3.out.1.res.heap, (by kernel_rfl)⟩, Try.info_mvB _ _ _ _ _, Try.one_mvB _ _ _ _ _, ?_⟩; intro W9 hP9 hq9; have HB := Lib.hid (hP9.below H3.out.1.below (Nat.le_succ _))))
    exact bodyPost_ret (results_mv_tmp Try.results19 _ _ (w.heap.size + 1) 33 _ (0, 0) _ rfl hq9.heap Try.underlying33 rfl (Try.info_mvB _ _ _ _ _)) rfl ⟨by first | rfl | (rw [f0]; rfl) | (rw [f0, E.out]; rfl), HB.out⟩
  cases f3 : (r != 4)
  · have E := Lib.hid (show so = _ by rw [HE.out, f1, f2, f3])
    clear HE
    go_wp2_with (first
      | ((with_reducible refine wp_load_box_g rfl _ rfl ?_); refine ⟨_, c, rfl, H3.out.1.p, ?_⟩)
      | (go_at_call 31; (with_reducible refine (HSt.out _).mono ?_); rintro e w4 ⟨rfl, hb4⟩; have H4 := Lib.hid (And.intro (H3.out.1.next hb4) (And.intro (H3.out.2.1.below hb4) H3.out.2.2)); clear hb4)
      | ((with_reducible refine wp_load_row' rfl 33 _ rfl Try.underlying33 rfl ?_); refine ⟨_, _, _, rfl, H4.out.2.1, Try.info_mvB _ _ _ _ _, ?_⟩)
      | ((with_reducible refine wp_load_row' rfl 33 _ rfl Try.underlying33 rfl ?_); refine ⟨_, _, _, rfl, H3.out.2.1, Try.info_mvB _ _ _ _ _, ?_⟩)
      | ((with_reducible refine wp_store_row' rfl 33 _ _ rfl ?_); refine ⟨w.heap.size + 1, 33, movC 60 tg 0 0 true, rfl, rfl, ⟨_, H4.out.1.res.heap, (by kernel_rfl)⟩, Try.info_mvB _ _ _ _ _, Try.one_mvB _ _ _ _ _, ?_⟩; intro W9 hP9 hq9; have HB := Lib.hid (hP9.below H4.out.1.below (Nat.le_succ _)))
      | ((with_reducible refine wp_store_row' rfl 33 _ _ rfl ?_); refine ⟨w.heap.size + 1, 33, movC 60 tg 0 0 true, rfl, rfl, ⟨_, H3.out.1.res.heap, (by kernel_rfl)⟩, Try.info_mvB _ _ _ _ _, Try.one_mvB _ _ _ _ _, ?_⟩; intro W9 hP9 hq9; have HB := Lib.hid (hP9.below H3.out.1.below (Nat.le_succ _))))
    exact bodyPost_ret (results_mv_tmp Try.results19 _ _ (w.heap.size + 1) 33 _ (0, 0) _ rfl hq9.heap Try.underlying33 rfl (Try.info_mvB _ _ _ _ _)) rfl ⟨by first | rfl | (rw [f0]; rfl) | (rw [f0, E.out]; rfl), HB.out⟩
  cases f4 : decide (4 < r)
  · have E := Lib.hid (show so = _ by rw [HE.out, f1, f2, f3, f4])
    clear HE
    go_wp2_with (first
      | ((with_reducible refine wp_load_box_g rfl _ rfl ?_); refine ⟨_, c, rfl, H3.out.1.p, ?_⟩)
      | (go_at_call 31; (with_reducible refine (HSt.out _).mono ?_); rintro e w4 ⟨rfl, hb4⟩; have H4 := Lib.hid (And.intro (H3.out.1.next hb4) (And.intro (H3.out.2.1.below hb4) H3.out.2.2)); clear hb4)
      | ((with_reducible refine wp_load_row' rfl 33 _ rfl Try.underlying33 rfl ?_); refine ⟨_, _, _, rfl, H4.out.2.1, Try.info_mvB _ _ _ _ _, ?_⟩)
      | ((with_reducible refine wp_load_row' rfl 33 _ rfl Try.underlying33 rfl ?_); refine ⟨_, _, _, rfl, H3.out.2.1, Try.info_mvB _ _ _ _ _, ?_⟩)
      | ((with_reducible refine wp_store_row' rfl 33 _ _ rfl ?_); refine ⟨w.heap.size + 1, 33, movC 60 tg 0 0 true, rfl, rfl, ⟨_, H4.out.1.res.heap, (by kernel_rfl)⟩, Try.info_mvB _ _ _ _ _, Try.one_mvB _ _ _ _ _, ?_⟩; intro W9 hP9 hq9; have HB := Lib.hid (hP9.below H4.out.1.below (Nat.le_succ _)))
      | ((with_reducible refine wp_store_row' rfl 33 _ _ rfl ?_); refine ⟨w.heap.size + 1, 33, movC 60 tg 0 0 true, rfl, rfl, ⟨_, H3.out.1.res.heap, (by kernel_rfl)⟩, Try.info_mvB _ _ _ _ _, Try.one_mvB _ _ _ _ _, ?_⟩; intro W9 hP9 hq9; have HB := Lib.hid (hP9.below H3.out.1.below (Nat.le_succ _))))
    exact bodyPost_ret (results_mv_tmp Try.results19 _ _ (w.heap.size + 1) 33 _ (0, 0) _ rfl hq9.heap Try.underlying33 rfl (Try.info_mvB _ _ _ _ _)) rfl ⟨by first | rfl | (rw [f0]; rfl) | (rw [f0, E.out]; rfl), HB.out⟩
  · have E := Lib.hid (show so = _ by rw [HE.out, f1, f2, f3, f4])
    clear HE
    go_wp2_with (first
      | ((with_reducible refine wp_load_box_g rfl _ rfl ?_); refine ⟨_, c, rfl, H3.out.1.p, ?_⟩)
      | (go_at_call 31; (with_reducible refine (HSt.out _).mono ?_); rintro e w4 ⟨rfl, hb4⟩; have H4 := Lib.hid (And.intro (H3.out.1.next hb4) (And.intro (H3.out.2.1.below hb4) H3.out.2.2)); clear hb4)
      | ((with_reducible refine wp_load_row' rfl 33 _ rfl Try.underlying33 rfl ?_); refine ⟨_, _, _, rfl, H4.out.2.1, Try.info_mvB _ _ _ _ _, ?_⟩)
      | ((with_reducible refine wp_load_row' rfl 33 _ rfl Try.underlying33 rfl ?_); refine ⟨_, _, _, rfl, H3.out.2.1, Try.info_mvB _ _ _ _ _, ?_⟩)
      | ((with_reducible refine wp_store_row' rfl 33 _ _ rfl ?_); refine ⟨w.heap.size + 1, 33, movC 60 tg 0 0 true, rfl, rfl, ⟨_, H4.out.1.res.heap, (by kernel_rfl)⟩, Try.info_mvB _ _ _ _ _, Try.one_mvB _ _ _ _ _, ?_⟩; intro W9 hP9 hq9; have HB := Lib.hid (hP9.below H4.out.1.below (Nat.le_succ _)))
      | ((with_reducible refine wp_store_row' rfl 33 _ _ rfl ?_); refine ⟨w.heap.size + 1, 33, movC 60 tg 0 0 true, rfl, rfl, ⟨_, H3.out.1.res.heap, (by kernel_rfl)⟩, Try.info_mvB _ _ _ _ _, Try.one_mvB _ _ _ _ _, ?_⟩; intro W9 hP9 hq9; have HB := Lib.hid (hP9.below H3.out.1.below (Nat.le_succ _))))
    exact bodyPost_ret (results_mv_tmp Try.results19 _ _ (w.heap.size + 1) 33 _ (0, 0) _ rfl hq9.heap Try.underlying33 rfl (Try.info_mvB _ _ _ _ _)) rfl ⟨by first | rfl | (rw [f0]; rfl) | (rw [f0, E.out]; rfl), HB.out⟩

set_option maxRecDepth 100000 in
set_option maxHeartbeats 2000000 in
theorem mvcastling_11 (c : Nat → Int) (w : World) (ht : c 78 = 1) :
    Calls Try.prog 19 #[.agg (posC c), .int .i64 1] w fun e w' => e = .returned (.tuple #[.agg (movC 60 (IntKind.i8.wrap (56 + c 82)) 0 0 true), .bool (c 0 != 1 && N.sideOk c 1)]) ∧ Below w.heap.size w w' := by
  have h0 : MvRes w w.heap.size c ((w.alloc (.cells (posC c) 31)).alloc (.cells #[.int .i8 0, .int .i8 0, .int .u8 0, .int .u8 0, .bool false] 33)) :=
    ⟨(PosAt.new w c).alloc _, by have := RowAt.new (w.alloc (.cells (posC c) 31)) #[.int .i8 0, .int .i8 0, .int .u8 0, .int .u8 0, .bool false] 33; rwa [World.size_alloc] at this, ((Below.refl _ _).alloc (Nat.le_refl _) _).alloc (by simp) _⟩
  have HHo : Hid (∀ W, Calls Try.prog 33 #[.agg (posC c)] W fun e w' => e = .returned (.int .i8 56) ∧ Below W.heap.size W w') := Lib.hid (fun W => by
    have := mvhome_any c W (by omega)
    rwa [show ((N.home c : Nat) : Int) = 56 by unfold N.home; rw [ht]; rfl] at this)
  have HSt : Hid (∀ W, Calls Try.prog 31 #[.agg (posC c), .int .i8 60, .int .u8 6] W fun e w' => e = .returned (.bool (N.king c 60)) ∧ Below W.heap.size W w') := Lib.hid (fun W => stands_walk c 60 6 W (by decide) (by omega) (by omega) (by decide) (by decide))
  have HE := Lib.hid (show N.sideOk c 1 = (N.king c 60 && (decide (0 ≤ c 82) && (decide (c 82 < 8) && (c 82 != 4 && (decide (4 < c 82) == false))))) by unfold N.sideOk N.home N.rk; rw [ht]; rfl)
  have c78 := h0.p.cell (i := 78) (by decide)
  have cr := h0.p.cell (i := 82) (by decide)
  rw [show pk 78 = .u8 from rfl, ht] at c78
  rw [show pk 82 = .i8 from rfl] at cr
  have lb := h0.p.lt
  have hs0 : ((w.alloc (.cells (posC c) 31)).alloc (.cells #[.int .i8 0, .int .i8 0, .int .u8 0, .int .u8 0, .bool false] 33)).heap.size = w.heap.size + 2 := by simp
  have H0 := Lib.hid h0
  clear h0 ht
  obtain ⟨r, hr⟩ : ∃ r, c 82 = r := ⟨_, rfl⟩
  obtain ⟨st, hst⟩ : ∃ s, N.king c 60 = s := ⟨_, rfl⟩
  obtain ⟨so, hso⟩ : ∃ s, N.sideOk c 1 = s := ⟨_, rfl⟩
  rw [hr, hst, hso] at HE
  rw [hr] at cr ⊢
  rw [hst] at HSt
  rw [hso]
  obtain ⟨tg, htg⟩ : ∃ x, IntKind.i8.wrap (56 + r) = x := ⟨_, rfl⟩
  rw [htg]
  clear hr hst hso

  go_enter Try.func19, Try.ntmps19
  go_upto_region 1 with fail
  refine region_below (by kernel_rfl) (by kernel_rfl) ?_
  try simp only [Act.put]
  repeat (first
    | (go_big_quiet_want; refine quiet_load_mvp _ rfl ⟨_, c, rfl, H0.out.p, ?_⟩; simp only [Act.put, List.setIfInBounds_toArray, List.set_cons_succ, List.set_cons_zero]; go_big_quiet_on)
    | go_big_quiet_step (first
      | (go_at_call 33; (with_reducible exact quiet_below (HHo.out _)))))
  refine wpQuiet_nil ?_
  intro w1 hb1
  have H1 := Lib.hid (H0.out.next hb1)
  clear hb1 H0 c78 cr lb hs0
  go_upto_region 3 with (first
    | ((with_reducible refine wp_load_box rfl _ rfl ?_); refine ⟨_, c, rfl, H1.out.p, ?_⟩)
    | (go_at_call 33; (with_reducible refine (HHo.out _).mono ?_); rintro e w2 ⟨rfl, hb2⟩; have H2 := Lib.hid (H1.out.next hb2); clear hb2)
    | ((with_reducible refine wp_store_row' rfl 33 _ _ rfl ?_); refine ⟨w2.heap.size, 33, movC 60 tg 0 0 true, rfl, rfl, ⟨_, heap_alloc_new _ _, (by kernel_rfl)⟩, Try.info_mvB _ _ _ _ _, Try.one_mvB _ _ _ _ _, ?_⟩; intro W3 hP hq; have H3 := Lib.hid (And.intro ((H2.out.next ((Below.refl _ _).alloc (Nat.le_refl _) _)).other hP H2.out.res.lt) (And.intro hq H2.out.res.lt)); clear hP hq))
  obtain ⟨b, hb⟩ : ∃ b, w2.heap.size = b := ⟨_, rfl⟩
  rw [hb] at H3 ⊢
  clear hb H2 H1
  have c0 := H3.out.1.p.cell (i := 0) (by decide)
  rw [show pk 0 = .u8 from rfl] at c0
  have HM := Lib.hid (show ∀ x y z, movC x y 0 0 z = movC x y 0 0 z from fun _ _ _ => rfl)
  cases f0 : (c 0 != 1)
  · have E := Lib.hid (show so = so from rfl)
    clear HE
    go_wp2_with (first
      | ((with_reducible refine wp_load_box_g rfl _ rfl ?_); refine ⟨_, c, rfl, H3.out.1.p, ?_⟩)
      | (go_at_call 31; (with_reducible refine (HSt.out _).mono ?_); rintro e w4 ⟨rfl, hb4⟩; have H4 := Lib.hid (And.intro (H3.out.1.next hb4) (And.intro (H3.out.2.1.below hb4) H3.out.2.2)); clear hb4)
      | ((with_reducible refine wp_load_row' rfl 33 _ rfl Try.underlying33 rfl ?_); refine ⟨_, _, _, rfl, H4.out.2.1, Try.info_mvB _ _ _ _ _, ?_⟩)
      | ((with_reducible refine wp_load_row' rfl 33 _ rfl Try.underlying33 rfl ?_); refine ⟨_, _, _, rfl, H3.out.2.1, Try.info_mvB _ _ _ _ _, ?_⟩)
      | ((with_reducible refine wp_store_row' rfl 33 _ _ rfl ?_); refine ⟨w.heap.size + 1, 33, movC 60 tg 0 0 true, rfl, rfl, ⟨_, H4.out.1.res.heap, (by kernel_rfl)⟩, Try.info_mvB _ _ _ _ _, Try.one_mvB _ _ _ _ _, ?_⟩; intro W9 hP9 hq9; have HB := Lib.hid (hP9.below H4.out.1.below (Nat.le_succ _)))
      | ((with_reducible refine wp_store_row' rfl 33 _ _ rfl ?_); refine ⟨w.heap.size + 1, 33, movC 60 tg 0 0 true, rfl, rfl, ⟨_, H3.out.1.res.heap, (by kernel_rfl)⟩, Try.info_mvB _ _ _ _ _, Try.one_mvB _ _ _ _ _, ?_⟩; intro W9 hP9 hq9; have HB := Lib.hid (hP9.below H3.out.1.below (Nat.le_succ _))))
    exact bodyPost_ret (results_mv_tmp Try.results19 _ _ (w.heap.size + 1) 33 _ (0, 0) _ rfl hq9.heap Try.underlying33 rfl (Try.info_mvB _ _ _ _ _)) rfl ⟨by first | rfl | (rw [f0]; rfl) | (rw [f0, E.out]; rfl), HB.out⟩
  cases st
  · have E := Lib.hid (show so = _ by rw [HE.out])
    clear HE
    go_wp2_with (first
      | ((with_reducible refine wp_load_box_g rfl _ rfl ?_); refine ⟨_, c, rfl, H3.out.1.p, ?_⟩)
      | (go_at_call 31; (with_reducible refine (HSt.out _).mono ?_); rintro e w4 ⟨rfl, hb4⟩; have H4 := Lib.hid (And.intro (H3.out.1.next hb4) (And.intro (H3.out.2.1.below hb4) H3.out.2.2)); clear hb4)
      | ((with_reducible refine wp_load_row' rfl 33 _ rfl Try.underlying33 rfl ?_); refine ⟨_, _, _, rfl, H4.out.2.1, Try.info_mvB _ _ _ _ _, ?_⟩)
      | ((with_reducible refine wp_load_row' rfl 33 _ rfl Try.underlying33 rfl ?_); refine ⟨_, _, _, rfl, H3.out.2.1, Try.info_mvB _ _ _ _ _, ?_⟩)
      | ((with_reducible refine wp_store_row' rfl 33 _ _ rfl ?_); refine ⟨w.heap.size + 1, 33, movC 60 tg 0 0 true, rfl, rfl, ⟨_, H4.out.1.res.heap, (by kernel_rfl)⟩, Try.info_mvB _ _ _ _ _, Try.one_mvB _ _ _ _ _, ?_⟩; intro W9 hP9 hq9; have HB := Lib.hid (hP9.below H4.out.1.below (Nat.le_succ _)))
      | ((with_reducible refine wp_store_row' rfl 33 _ _ rfl ?_); refine ⟨w.heap.size + 1, 33, movC 60 tg 0 0 true, rfl, rfl, ⟨_, H3.out.1.res.heap, (by kernel_rfl)⟩, Try.info_mvB _ _ _ _ _, Try.one_mvB _ _ _ _ _, ?_⟩; intro W9 hP9 hq9; have HB := Lib.hid (hP9.below H3.out.1.below (Nat.le_succ _))))
    exact bodyPost_ret (results_mv_tmp Try.results19 _ _ (w.heap.size + 1) 33 _ (0, 0) _ rfl hq9.heap Try.underlying33 rfl (Try.info_mvB _ _ _ _ _)) rfl ⟨by first | rfl | (rw [f0]; rfl) | (rw [f0, E.out]; rfl), HB.out⟩
  cases f1 : decide (0 ≤ r)
  · have E := Lib.hid (show so = _ by rw [HE.out, f1])
    clear HE
    go_wp2_with (first
      | ((with_reducible refine wp_load_box_g rfl _ rfl ?_); refine ⟨_, c, rfl, H3.out.1.p, ?_⟩)
      | (go_at_call 31; (with_reducible refine (HSt.out _).mono ?_); rintro e w4 ⟨rfl, hb4⟩; have H4 := Lib.hid (And.intro (H3.out.1.next hb4) (And.intro (H3.out.2.1.below hb4) H3.out.2.2)); clear hb4)
      | ((with_reducible refine wp_load_row' rfl 33 _ rfl Try.underlying33 rfl ?_); refine ⟨_, _, _, rfl, H4.out.2.1, Try.info_mvB _ _ _ _ _, ?_⟩)
      | ((with_reducible refine wp_load_row' rfl 33 _ rfl Try.underlying33 rfl ?_); refine ⟨_, _, _, rfl, H3.out.2.1, Try.info_mvB _ _ _ _ _, ?_⟩)
      | ((with_reducible refine wp_store_row' rfl 33 _ _ rfl ?_); refine ⟨w.heap.size + 1, 33, movC 60 tg 0 0 true, rfl, rfl, ⟨_, H4.out.1.res.heap, (by kernel_rfl)⟩, Try.info_mvB _ _ _ _ _, Try.one_mvB _ _ _ _ _, ?_⟩; intro W9 hP9 hq9; have HB := Lib.hid (hP9.below H4.out.1.below (Nat.le_succ _)))
      | ((with_reducible refine wp_store_row' rfl 33 _ _ rfl ?_); refine ⟨w.heap.size + 1, 33, movC 60 tg 0 0 true, rfl, rfl, ⟨_, H3.out.1.res.heap, (by kernel_rfl)⟩, Try.info_mvB _ _ _ _ _, Try.one_mvB _ _ _ _ _, ?_⟩; intro W9 hP9 hq9; have HB := Lib.hid (hP9.below H3.out.1.below (Nat.le_succ _))))
    exact bodyPost_ret (results_mv_tmp Try.results19 _ _ (w.heap.size + 1) 33 _ (0, 0) _ rfl hq9.heap Try.underlying33 rfl (Try.info_mvB _ _ _ _ _)) rfl ⟨by first | rfl | (rw [f0]; rfl) | (rw [f0, E.out]; rfl), HB.out⟩
  cases f2 : decide (r < 8)
  · have E := Lib.hid (show so = _ by rw [HE.out, f1, f2])
    clear HE
    go_wp2_with (first
      | ((with_reducible refine wp_load_box_g rfl _ rfl ?_); refine ⟨_, c, rfl, H3.out.1.p, ?_⟩)
      | (go_at_call 31; (with_reducible refine (HSt.out _).mono ?_); rintro e w4 ⟨rfl, hb4⟩; have H4 := Lib.hid (And.intro (H3.out.1.next hb4) (And.intro (H3.out.2.1.below hb4) H3.out.2.2)); clear hb4)
      | ((with_reducible refine wp_load_row' rfl 33 _ rfl Try.underlying33 rfl ?_); refine ⟨_, _, _, rfl, H4.out.2.1, Try.info_mvB _ _ _ _ _, ?_⟩)
      | ((with_reducible refine wp_load_row' rfl 33 _ rfl Try.underlying33 rfl ?_); refine ⟨_, _, _, rfl, H3.out.2.1, Try.info_mvB _ _ _ _ _, ?_⟩)
      | ((with_reducible refine wp_store_row' rfl 33 _ _ rfl ?_); refine ⟨w.heap.size + 1, 33, movC 60 tg 0 0 true, rfl, rfl, ⟨_, H4.out.1.res.heap, (by kernel_rfl)⟩, Try.info_mvB _ _ _ _ _, Try.one_mvB _ _ _ _ _, ?_⟩; intro W9 hP9 hq9; have HB := Lib.hid (hP9.below H4.out.1.below (Nat.le_succ _)))
      | ((with_reducible refine wp_store_row' rfl 33 _ _ rfl ?_); refine ⟨w.heap.size + 1, 33, movC 60 tg 0 0 true, rfl, rfl, ⟨_, H3.out.1.res.heap, (by kernel_rfl)⟩, Try.info_mvB _ _ _ _ _, Try.one_mvB _ _ _ _ _, ?_⟩; intro W9 hP9 hq9; have HB := Lib.hid (hP9.below H3.out.1.below (Nat.le_succ _))))
    exact bodyPost_ret (results_mv_tmp Try.results19 _ _ (w.heap.size + 1) 33 _ (0, 0) _ rfl hq9.heap Try.underlying33 rfl (Try.info_mvB _ _ _ _ _)) rfl ⟨by first | rfl | (rw [f0]; rfl) | (rw [f0, E.out]; rfl), HB.out⟩
  cases f3 : (r != 4)
  · have E := Lib.hid (show so = _ by rw [HE.out, f1, f2, f3])
    clear HE
    go_wp2_with (first
      | ((with_reducible refine wp_load_box_g rfl _ rfl ?_); refine ⟨_, c, rfl, H3.out.1.p, ?_⟩)
      | (go_at_call 31; (with_reducible refine (HSt.out _).mono ?_); rintro e w4 ⟨rfl, hb4⟩; have H4 := Lib.hid (And.intro (H3.out.1.next hb4) (And.intro (H3.out.2.1.below hb4) H3.out.2.2)); clear hb4)
      | ((with_reducible refine wp_load_row' rfl 33 _ rfl Try.underlying33 rfl ?_); refine ⟨_, _, _, rfl, H4.out.2.1, Try.info_mvB _ _ _ _ _, ?_⟩)
      | ((with_reducible refine wp_load_row' rfl 33 _ rfl Try.underlying33 rfl ?_); refine ⟨_, _, _, rfl, H3.out.2.1, Try.info_mvB _ _ _ _ _, ?_⟩)
      | ((with_reducible refine wp_store_row' rfl 33 _ _ rfl ?_); refine ⟨w.heap.size + 1, 33, movC 60 tg 0 0 true, rfl, rfl, ⟨_, H4.out.1.res.heap, (by kernel_rfl)⟩, Try.info_mvB _ _ _ _ _, Try.one_mvB _ _ _ _ _, ?_⟩; intro W9 hP9 hq9; have HB := Lib.hid (hP9.below H4.out.1.below (Nat.le_succ _)))
      | ((with_reducible refine wp_store_row' rfl 33 _ _ rfl ?_); refine ⟨w.heap.size + 1, 33, movC 60 tg 0 0 true, rfl, rfl, ⟨_, H3.out.1.res.heap, (by kernel_rfl)⟩, Try.info_mvB _ _ _ _ _, Try.one_mvB _ _ _ _ _, ?_⟩; intro W9 hP9 hq9; have HB := Lib.hid (hP9.below H3.out.1.below (Nat.le_succ _))))
    exact bodyPost_ret (results_mv_tmp Try.results19 _ _ (w.heap.size + 1) 33 _ (0, 0) _ rfl hq9.heap Try.underlying33 rfl (Try.info_mvB _ _ _ _ _)) rfl ⟨by first | rfl | (rw [f0]; rfl) | (rw [f0, E.out]; rfl), HB.out⟩
  cases f4 : decide (4 < r)
  · have E := Lib.hid (show so = _ by rw [HE.out, f1, f2, f3, f4])
    clear HE
    go_wp2_with (first
      | ((with_reducible refine wp_load_box_g rfl _ rfl ?_); refine ⟨_, c, rfl, H3.out.1.p, ?_⟩)
      | (go_at_call 31; (with_reducible refine (HSt.out _).mono ?_); rintro e w4 ⟨rfl, hb4⟩; have H4 := Lib.hid (And.intro (H3.out.1.next hb4) (And.intro (H3.out.2.1.below hb4) H3.out.2.2)); clear hb4)
      | ((with_reducible refine wp_load_row' rfl 33 _ rfl Try.underlying33 rfl ?_); refine ⟨_, _, _, rfl, H4.out.2.1, Try.info_mvB _ _ _ _ _, ?_⟩)
      | ((with_reducible refine wp_load_row' rfl 33 _ rfl Try.underlying33 rfl ?_); refine ⟨_, _, _, rfl, H3.out.2.1, Try.info_mvB _ _ _ _ _, ?_⟩)
      | ((with_reducible refine wp_store_row' rfl 33 _ _ rfl ?_); refine ⟨w.heap.size + 1, 33, movC 60 tg 0 0 true, rfl, rfl, ⟨_, H4.out.1.res.heap, (by kernel_rfl)⟩, Try.info_mvB _ _ _ _ _, Try.one_mvB _ _ _ _ _, ?_⟩; intro W9 hP9 hq9; have HB := Lib.hid (hP9.below H4.out.1.below (Nat.le_succ _)))
      | ((with_reducible refine wp_store_row' rfl 33 _ _ rfl ?_); refine ⟨w.heap.size + 1, 33, movC 60 tg 0 0 true, rfl, rfl, ⟨_, H3.out.1.res.heap, (by kernel_rfl)⟩, Try.info_mvB _ _ _ _ _, Try.one_mvB _ _ _ _ _, ?_⟩; intro W9 hP9 hq9; have HB := Lib.hid (hP9.below H3.out.1.below (Nat.le_succ _))))
    exact bodyPost_ret (results_mv_tmp Try.results19 _ _ (w.heap.size + 1) 33 _ (0, 0) _ rfl hq9.heap Try.underlying33 rfl (Try.info_mvB _ _ _ _ _)) rfl ⟨by first | rfl | (rw [f0]; rfl) | (rw [f0, E.out]; rfl), HB.out⟩
  · have E := Lib.hid (show so = _ by rw [HE.out, f1, f2, f3, f4])
    clear HE
    go_wp2_with (first
      | ((with_reducible refine wp_load_box_g rfl _ rfl ?_); refine ⟨_, c, rfl, H3.out.1.p, ?_⟩)
      | (go_at_call 31; (with_reducible refine (HSt.out _).mono ?_); rintro e w4 ⟨rfl, hb4⟩; have H4 := Lib.hid (And.intro (H3.out.1.next hb4) (And.intro (H3.out.2.1.below hb4) H3.out.2.2)); clear hb4)
      | ((with_reducible refine wp_load_row' rfl 33 _ rfl Try.underlying33 rfl ?_); refine ⟨_, _, _, rfl, H4.out.2.1, Try.info_mvB _ _ _ _ _, ?_⟩)
      | ((with_reducible refine wp_load_row' rfl 33 _ rfl Try.underlying33 rfl ?_); refine ⟨_, _, _, rfl, H3.out.2.1, Try.info_mvB _ _ _ _ _, ?_⟩)
      | ((with_reducible refine wp_store_row' rfl 33 _ _ rfl ?_); refine ⟨w.heap.size + 1, 33, movC 60 tg 0 0 true, rfl, rfl, ⟨_, H4.out.1.res.heap, (by kernel_rfl)⟩, Try.info_mvB _ _ _ _ _, Try.one_mvB _ _ _ _ _, ?_⟩; intro W9 hP9 hq9; have HB := Lib.hid (hP9.below H4.out.1.below (Nat.le_succ _)))
      | ((with_reducible refine wp_store_row' rfl 33 _ _ rfl ?_); refine ⟨w.heap.size + 1, 33, movC 60 tg 0 0 true, rfl, rfl, ⟨_, H3.out.1.res.heap, (by kernel_rfl)⟩, Try.info_mvB _ _ _ _ _, Try.one_mvB _ _ _ _ _, ?_⟩; intro W9 hP9 hq9; have HB := Lib.hid (hP9.below H3.out.1.below (Nat.le_succ _))))
    exact bodyPost_ret (results_mv_tmp Try.results19 _ _ (w.heap.size + 1) 33 _ (0, 0) _ rfl hq9.heap Try.underlying33 rfl (Try.info_mvB _ _ _ _ _)) rfl ⟨by first | rfl | (rw [f0]; rfl) | (rw [f0, E.out]; rfl), HB.out⟩
end Go.Proofs.Ytldpejeodhkgdaa
