/- The laws MovesBack, MovesDrops. -/
import Derived.Test.YtldpejeodhkgdaaDoorLaw11b
namespace Go.Proofs.YtldpejeodhkgdaaDoor
open Go.RowKit Go.Sort
attribute [local go_sem] Oper.semAt_some

namespace N
theorem text_size {c : Nat → Int} {f g x y : Int} {z : Bool} {s : ByteArray} (h : Text c f g x y z s) : s.size ≤ 5 := by
  obtain ⟨hk, _, h⟩ := h
  rcases h with ⟨_, _, _, _, rfl⟩ | ⟨_, _, _, _, hc⟩ | ⟨_, _, _, _, rfl, _⟩
  · exact Nat.le_of_ble_eq_true rfl
  · obtain ⟨a, b, _, _, rfl⟩ := cas_two hk.2 hc
    exact Nat.le_of_ble_eq_true rfl
  · exact walk_size _ _ _
theorem text_ok {c : Nat → Int} {f g x y : Int} {z : Bool} {s : ByteArray} (h : Text c f g x y z s) : MovOk f g x y := by
  obtain ⟨_, ⟨hf, hg⟩, h⟩ := h
  unfold MovOk
  rcases h with ⟨h1, _, h2, _⟩ | ⟨h1, _, h2, _⟩ | ⟨h1, _, h2, _⟩ <;> omega
theorem mv_self (m : Mv) : (m != m) = false := by simp
theorem mv_selfE (m : Mv) : (m == m) = true := by simp
end N

set_option maxRecDepth 100000 in
set_option maxHeartbeats 4000000 in
theorem movesBack_walk (c : Nat → Int) (f g x y : Int) (z : Bool) (s : ByteArray) (w : World) (hc : PosOk c) (hm : MovOk f g x y) (hs : s.size ≤ 9223372036854775807) :
    Calls Tryd.prog 4 #[.agg (posC c), .agg (movC f g x y z), .string s] w fun e w' => e = .returned (.bool true) ∧ Below w.heap.size w w' := by
  have H0 := Lib.hid (PMv.start w c (movC f g x y z))
  by_cases h5 : 5000 < s.size
  · have d5 : decide ((5000 : Int) < (s.size : Int)) = true := by simp; omega
    clear h5 hc hm
    go_enter Tryd.func4, Tryd.ntmps4
    go_wp2_with (go_at_call 11; (with_reducible refine (awake11_any _).mono ?_); rintro r w1 ⟨rfl, hb⟩; have H1 := Lib.hid (H0.out.next hb); clear hb)
    go_ret
    exact ⟨rfl, H1.out.below⟩
  have d5 : decide ((5000 : Int) < (s.size : Int)) = false := by simp; omega
  obtain ⟨S, hT, hTC⟩ := mvText_fix c f g x y z hc hm
  obtain ⟨f', g', x', y', z', e, hE, hEC⟩ := mvParse_fix c s hc hs
  have HT := Lib.hid hTC
  have HQ := Lib.hid hEC
  clear hTC hEC h5 hm
  cases he : S.toList.isEmpty
  · have hX := N.text_of_ne hT (fun e => by rw [(N.empty_list S).2 e] at he; cases he)
    obtain ⟨f2, g2, x2, y2, z2, e2, hP, hPC⟩ := mvParse_fix c S hc (by have := N.text_size hX; omega)
    obtain ⟨rfl, k1, k2, k3, k4, k5⟩ := N.parse_ok hP hX
    obtain rfl := k1.symm
    obtain rfl := k2.symm
    obtain rfl := k3.symm
    obtain rfl := k4.symm
    obtain rfl := k5.symm
    clear k1 k2 k3 k4 k5
    have HP := Lib.hid hPC
    clear hPC hP hX hT
    rcases hE with ⟨rfl, hX⟩ | ⟨hz, hE⟩
    · obtain ⟨U, hU, hUC⟩ := mvText_fix c f' g' x' y' z' hc (N.text_ok hX)
      obtain rfl : U = s := N.end_of hU hX
      have HU := Lib.hid hUC
      clear hUC hU hX hc hs
      go_enter Tryd.func4, Tryd.ntmps4
      go_wp2_with (first
        | (go_at_call 11; (with_reducible refine (awake11_any _).mono ?_); rintro r w1 ⟨rfl, hb⟩; have H1 := Lib.hid (H0.out.next hb); clear hb)
        | ((with_reducible refine wp_load_box_g rfl _ rfl ?_); refine ⟨_, c, rfl, H6.out.1.p, ?_⟩)
        | ((with_reducible refine wp_load_box_g rfl _ rfl ?_); refine ⟨_, c, rfl, H4.out.1.p, ?_⟩)
        | ((with_reducible refine wp_load_box_g rfl _ rfl ?_); refine ⟨_, c, rfl, H2.out.p, ?_⟩)
        | ((with_reducible refine wp_load_box_g rfl _ rfl ?_); refine ⟨_, c, rfl, H1.out.p, ?_⟩)
        | (go_at_call 9; (with_reducible refine (HT.out _).mono ?_); rintro r w2 ⟨rfl, hb⟩; have H2 := Lib.hid (H1.out.next hb); clear hb)
        | ((with_reducible refine mv_load_rowG rfl 33 _ rfl Tryd.underlying33 rfl ?_); refine ⟨_, _, _, rfl, H4.out.2, Tryd.info_mvB _ _ _ _ _, ?_⟩)
        | ((with_reducible refine mv_load_rowG rfl 33 _ rfl Tryd.underlying33 rfl ?_); refine ⟨_, _, _, rfl, H4.out.1.m, Tryd.info_mvB _ _ _ _ _, ?_⟩)
        | ((with_reducible refine mv_load_rowG rfl 33 _ rfl Tryd.underlying33 rfl ?_); refine ⟨_, _, _, rfl, H1.out.m, Tryd.info_mvB _ _ _ _ _, ?_⟩)
        | (go_at_call 12; (with_reducible refine (HP.out _).mono ?_); rintro r w3 ⟨rfl, hb⟩; have H3 := Lib.hid (H2.out.next hb); clear hb)
        | ((with_reducible refine wp_store_row' rfl 33 _ _ rfl ?_); refine ⟨w3.heap.size, 33, movC f g x y z, rfl, rfl, ⟨_, heap_alloc_new _ _, (by kernel_rfl)⟩, Tryd.info_mvB _ _ _ _ _, Tryd.one_mvB _ _ _ _ _, ?_⟩; intro W4 hP hq; have H4 := Lib.hid (And.intro ((H3.out.next ((Below.refl _ _).alloc (Nat.le_refl _) _)).other hP H3.out.m.lt) hq); clear hP hq)
        | ((with_reducible refine wpl_neq_mvR rfl _ _ _ rfl ?_); refine ⟨(f, g, x, y, z), (f, g, x, y, z), rfl, rfl, ?_⟩; rw [N.mv_self])
        | (go_at_call 12; (with_reducible refine (HQ.out _).mono ?_); rintro r w5 ⟨rfl, hb⟩; have H5 := Lib.hid (H4.out.1.next hb); clear hb)
        | ((with_reducible refine wp_store_row' rfl 33 _ _ rfl ?_); refine ⟨w5.heap.size, 33, movC f' g' x' y' z', rfl, rfl, ⟨_, heap_alloc_new _ _, (by kernel_rfl)⟩, Tryd.info_mvB _ _ _ _ _, Tryd.one_mvB _ _ _ _ _, ?_⟩; intro W6 hP hq; have H6 := Lib.hid (And.intro ((H5.out.next ((Below.refl _ _).alloc (Nat.le_refl _) _)).other hP H5.out.m.lt) hq); clear hP hq)
        | ((with_reducible refine mv_load_rowG rfl 33 _ rfl Tryd.underlying33 rfl ?_); refine ⟨_, _, _, rfl, H6.out.2, Tryd.info_mvB _ _ _ _ _, ?_⟩)
        | (go_at_call 9; (with_reducible refine (HU.out _).mono ?_); rintro r w7 ⟨rfl, hb⟩; have H7 := Lib.hid (H6.out.1.next hb); clear hb))
      go_ret
      exact ⟨by first | rfl | simp, H7.out.below⟩
    · obtain ⟨rfl, rfl, rfl, rfl, rfl⟩ := hz
      rcases hE with ⟨rfl, _⟩ | ⟨rfl, _⟩
      · clear hc hs
        go_enter Tryd.func4, Tryd.ntmps4
        go_wp2_with (first
          | (go_at_call 11; (with_reducible refine (awake11_any _).mono ?_); rintro r w1 ⟨rfl, hb⟩; have H1 := Lib.hid (H0.out.next hb); clear hb)
          | ((with_reducible refine wp_load_box_g rfl _ rfl ?_); refine ⟨_, c, rfl, H6.out.1.p, ?_⟩)
          | ((with_reducible refine wp_load_box_g rfl _ rfl ?_); refine ⟨_, c, rfl, H4.out.1.p, ?_⟩)
          | ((with_reducible refine wp_load_box_g rfl _ rfl ?_); refine ⟨_, c, rfl, H2.out.p, ?_⟩)
          | ((with_reducible refine wp_load_box_g rfl _ rfl ?_); refine ⟨_, c, rfl, H1.out.p, ?_⟩)
          | (go_at_call 9; (with_reducible refine (HT.out _).mono ?_); rintro r w2 ⟨rfl, hb⟩; have H2 := Lib.hid (H1.out.next hb); clear hb)
          | ((with_reducible refine mv_load_rowG rfl 33 _ rfl Tryd.underlying33 rfl ?_); refine ⟨_, _, _, rfl, H4.out.2, Tryd.info_mvB _ _ _ _ _, ?_⟩)
          | ((with_reducible refine mv_load_rowG rfl 33 _ rfl Tryd.underlying33 rfl ?_); refine ⟨_, _, _, rfl, H4.out.1.m, Tryd.info_mvB _ _ _ _ _, ?_⟩)
          | ((with_reducible refine mv_load_rowG rfl 33 _ rfl Tryd.underlying33 rfl ?_); refine ⟨_, _, _, rfl, H1.out.m, Tryd.info_mvB _ _ _ _ _, ?_⟩)
          | (go_at_call 12; (with_reducible refine (HP.out _).mono ?_); rintro r w3 ⟨rfl, hb⟩; have H3 := Lib.hid (H2.out.next hb); clear hb)
          | ((with_reducible refine wp_store_row' rfl 33 _ _ rfl ?_); refine ⟨w3.heap.size, 33, movC f g x y z, rfl, rfl, ⟨_, heap_alloc_new _ _, (by kernel_rfl)⟩, Tryd.info_mvB _ _ _ _ _, Tryd.one_mvB _ _ _ _ _, ?_⟩; intro W4 hP hq; have H4 := Lib.hid (And.intro ((H3.out.next ((Below.refl _ _).alloc (Nat.le_refl _) _)).other hP H3.out.m.lt) hq); clear hP hq)
          | ((with_reducible refine wpl_neq_mvR rfl _ _ _ rfl ?_); refine ⟨(f, g, x, y, z), (f, g, x, y, z), rfl, rfl, ?_⟩; rw [N.mv_self])
          | (go_at_call 12; (with_reducible refine (HQ.out _).mono ?_); rintro r w5 ⟨rfl, hb⟩; have H5 := Lib.hid (H4.out.1.next hb); clear hb)
          | ((with_reducible refine wp_store_row' rfl 33 _ _ rfl ?_); refine ⟨w5.heap.size, 33, movC 0 0 0 0 false, rfl, rfl, ⟨_, heap_alloc_new _ _, (by kernel_rfl)⟩, Tryd.info_mvB _ _ _ _ _, Tryd.one_mvB _ _ _ _ _, ?_⟩; intro W6 hP hq; have H6 := Lib.hid (And.intro ((H5.out.next ((Below.refl _ _).alloc (Nat.le_refl _) _)).other hP H5.out.m.lt) hq); clear hP hq)
          | ((with_reducible refine mv_load_rowG rfl 33 _ rfl Tryd.underlying33 rfl ?_); refine ⟨_, _, _, rfl, H6.out.2, Tryd.info_mvB _ _ _ _ _, ?_⟩)
          | ((with_reducible refine wpl_eql_mv rfl _ _ _ rfl ?_); refine ⟨(0, 0, 0, 0, false), (0, 0, 0, 0, false), rfl, rfl, ?_⟩; rw [N.mv_selfE]))
        go_ret
        exact ⟨by first | rfl | simp, H6.out.1.below⟩
      · clear hc hs
        go_enter Tryd.func4, Tryd.ntmps4
        go_wp2_with (first
          | (go_at_call 11; (with_reducible refine (awake11_any _).mono ?_); rintro r w1 ⟨rfl, hb⟩; have H1 := Lib.hid (H0.out.next hb); clear hb)
          | ((with_reducible refine wp_load_box_g rfl _ rfl ?_); refine ⟨_, c, rfl, H6.out.1.p, ?_⟩)
          | ((with_reducible refine wp_load_box_g rfl _ rfl ?_); refine ⟨_, c, rfl, H4.out.1.p, ?_⟩)
          | ((with_reducible refine wp_load_box_g rfl _ rfl ?_); refine ⟨_, c, rfl, H2.out.p, ?_⟩)
          | ((with_reducible refine wp_load_box_g rfl _ rfl ?_); refine ⟨_, c, rfl, H1.out.p, ?_⟩)
          | (go_at_call 9; (with_reducible refine (HT.out _).mono ?_); rintro r w2 ⟨rfl, hb⟩; have H2 := Lib.hid (H1.out.next hb); clear hb)
          | ((with_reducible refine mv_load_rowG rfl 33 _ rfl Tryd.underlying33 rfl ?_); refine ⟨_, _, _, rfl, H4.out.2, Tryd.info_mvB _ _ _ _ _, ?_⟩)
          | ((with_reducible refine mv_load_rowG rfl 33 _ rfl Tryd.underlying33 rfl ?_); refine ⟨_, _, _, rfl, H4.out.1.m, Tryd.info_mvB _ _ _ _ _, ?_⟩)
          | ((with_reducible refine mv_load_rowG rfl 33 _ rfl Tryd.underlying33 rfl ?_); refine ⟨_, _, _, rfl, H1.out.m, Tryd.info_mvB _ _ _ _ _, ?_⟩)
          | (go_at_call 12; (with_reducible refine (HP.out _).mono ?_); rintro r w3 ⟨rfl, hb⟩; have H3 := Lib.hid (H2.out.next hb); clear hb)
          | ((with_reducible refine wp_store_row' rfl 33 _ _ rfl ?_); refine ⟨w3.heap.size, 33, movC f g x y z, rfl, rfl, ⟨_, heap_alloc_new _ _, (by kernel_rfl)⟩, Tryd.info_mvB _ _ _ _ _, Tryd.one_mvB _ _ _ _ _, ?_⟩; intro W4 hP hq; have H4 := Lib.hid (And.intro ((H3.out.next ((Below.refl _ _).alloc (Nat.le_refl _) _)).other hP H3.out.m.lt) hq); clear hP hq)
          | ((with_reducible refine wpl_neq_mvR rfl _ _ _ rfl ?_); refine ⟨(f, g, x, y, z), (f, g, x, y, z), rfl, rfl, ?_⟩; rw [N.mv_self])
          | (go_at_call 12; (with_reducible refine (HQ.out _).mono ?_); rintro r w5 ⟨rfl, hb⟩; have H5 := Lib.hid (H4.out.1.next hb); clear hb)
          | ((with_reducible refine wp_store_row' rfl 33 _ _ rfl ?_); refine ⟨w5.heap.size, 33, movC 0 0 0 0 false, rfl, rfl, ⟨_, heap_alloc_new _ _, (by kernel_rfl)⟩, Tryd.info_mvB _ _ _ _ _, Tryd.one_mvB _ _ _ _ _, ?_⟩; intro W6 hP hq; have H6 := Lib.hid (And.intro ((H5.out.next ((Below.refl _ _).alloc (Nat.le_refl _) _)).other hP H5.out.m.lt) hq); clear hP hq)
          | ((with_reducible refine mv_load_rowG rfl 33 _ rfl Tryd.underlying33 rfl ?_); refine ⟨_, _, _, rfl, H6.out.2, Tryd.info_mvB _ _ _ _ _, ?_⟩)
          | ((with_reducible refine wpl_eql_mv rfl _ _ _ rfl ?_); refine ⟨(0, 0, 0, 0, false), (0, 0, 0, 0, false), rfl, rfl, ?_⟩; rw [N.mv_selfE]))
        go_ret
        exact ⟨by first | rfl | simp, H6.out.1.below⟩
  · obtain rfl := (N.empty_list S).1 he
    clear hT he
    rcases hE with ⟨rfl, hX⟩ | ⟨hz, hE⟩
    · obtain ⟨U, hU, hUC⟩ := mvText_fix c f' g' x' y' z' hc (N.text_ok hX)
      obtain rfl : U = s := N.end_of hU hX
      have HU := Lib.hid hUC
      clear hUC hU hX hc hs
      go_enter Tryd.func4, Tryd.ntmps4
      go_wp2_with (first
        | (go_at_call 11; (with_reducible refine (awake11_any _).mono ?_); rintro r w1 ⟨rfl, hb⟩; have H1 := Lib.hid (H0.out.next hb); clear hb)
        | ((with_reducible refine wp_load_box_g rfl _ rfl ?_); refine ⟨_, c, rfl, H6.out.1.p, ?_⟩)
        | ((with_reducible refine wp_load_box_g rfl _ rfl ?_); refine ⟨_, c, rfl, H4.out.1.p, ?_⟩)
        | ((with_reducible refine wp_load_box_g rfl _ rfl ?_); refine ⟨_, c, rfl, H2.out.p, ?_⟩)
        | ((with_reducible refine wp_load_box_g rfl _ rfl ?_); refine ⟨_, c, rfl, H1.out.p, ?_⟩)
        | (go_at_call 9; (with_reducible refine (HT.out _).mono ?_); rintro r w2 ⟨rfl, hb⟩; have H2 := Lib.hid (H1.out.next hb); clear hb)
        | ((with_reducible refine mv_load_rowG rfl 33 _ rfl Tryd.underlying33 rfl ?_); refine ⟨_, _, _, rfl, H1.out.m, Tryd.info_mvB _ _ _ _ _, ?_⟩)
        | (go_at_call 12; (with_reducible refine (HQ.out _).mono ?_); rintro r w5 ⟨rfl, hb⟩; have H5 := Lib.hid (H2.out.next hb); clear hb)
        | ((with_reducible refine wp_store_row' rfl 33 _ _ rfl ?_); refine ⟨w5.heap.size, 33, movC f' g' x' y' z', rfl, rfl, ⟨_, heap_alloc_new _ _, (by kernel_rfl)⟩, Tryd.info_mvB _ _ _ _ _, Tryd.one_mvB _ _ _ _ _, ?_⟩; intro W6 hP hq; have H6 := Lib.hid (And.intro ((H5.out.next ((Below.refl _ _).alloc (Nat.le_refl _) _)).other hP H5.out.m.lt) hq); clear hP hq)
        | ((with_reducible refine mv_load_rowG rfl 33 _ rfl Tryd.underlying33 rfl ?_); refine ⟨_, _, _, rfl, H6.out.2, Tryd.info_mvB _ _ _ _ _, ?_⟩)
        | (go_at_call 9; (with_reducible refine (HU.out _).mono ?_); rintro r w7 ⟨rfl, hb⟩; have H7 := Lib.hid (H6.out.1.next hb); clear hb))
      go_ret
      exact ⟨by first | rfl | simp, H7.out.below⟩
    · obtain ⟨rfl, rfl, rfl, rfl, rfl⟩ := hz
      rcases hE with ⟨rfl, _⟩ | ⟨rfl, _⟩
      · clear hc hs
        go_enter Tryd.func4, Tryd.ntmps4
        go_wp2_with (first
          | (go_at_call 11; (with_reducible refine (awake11_any _).mono ?_); rintro r w1 ⟨rfl, hb⟩; have H1 := Lib.hid (H0.out.next hb); clear hb)
          | ((with_reducible refine wp_load_box_g rfl _ rfl ?_); refine ⟨_, c, rfl, H6.out.1.p, ?_⟩)
          | ((with_reducible refine wp_load_box_g rfl _ rfl ?_); refine ⟨_, c, rfl, H4.out.1.p, ?_⟩)
          | ((with_reducible refine wp_load_box_g rfl _ rfl ?_); refine ⟨_, c, rfl, H2.out.p, ?_⟩)
          | ((with_reducible refine wp_load_box_g rfl _ rfl ?_); refine ⟨_, c, rfl, H1.out.p, ?_⟩)
          | (go_at_call 9; (with_reducible refine (HT.out _).mono ?_); rintro r w2 ⟨rfl, hb⟩; have H2 := Lib.hid (H1.out.next hb); clear hb)
          | ((with_reducible refine mv_load_rowG rfl 33 _ rfl Tryd.underlying33 rfl ?_); refine ⟨_, _, _, rfl, H1.out.m, Tryd.info_mvB _ _ _ _ _, ?_⟩)
          | (go_at_call 12; (with_reducible refine (HQ.out _).mono ?_); rintro r w5 ⟨rfl, hb⟩; have H5 := Lib.hid (H2.out.next hb); clear hb)
          | ((with_reducible refine wp_store_row' rfl 33 _ _ rfl ?_); refine ⟨w5.heap.size, 33, movC 0 0 0 0 false, rfl, rfl, ⟨_, heap_alloc_new _ _, (by kernel_rfl)⟩, Tryd.info_mvB _ _ _ _ _, Tryd.one_mvB _ _ _ _ _, ?_⟩; intro W6 hP hq; have H6 := Lib.hid (And.intro ((H5.out.next ((Below.refl _ _).alloc (Nat.le_refl _) _)).other hP H5.out.m.lt) hq); clear hP hq)
          | ((with_reducible refine mv_load_rowG rfl 33 _ rfl Tryd.underlying33 rfl ?_); refine ⟨_, _, _, rfl, H6.out.2, Tryd.info_mvB _ _ _ _ _, ?_⟩)
          | ((with_reducible refine wpl_eql_mv rfl _ _ _ rfl ?_); refine ⟨(0, 0, 0, 0, false), (0, 0, 0, 0, false), rfl, rfl, ?_⟩; rw [N.mv_selfE]))
        go_ret
        exact ⟨by first | rfl | simp, H6.out.1.below⟩
      · clear hc hs
        go_enter Tryd.func4, Tryd.ntmps4
        go_wp2_with (first
          | (go_at_call 11; (with_reducible refine (awake11_any _).mono ?_); rintro r w1 ⟨rfl, hb⟩; have H1 := Lib.hid (H0.out.next hb); clear hb)
          | ((with_reducible refine wp_load_box_g rfl _ rfl ?_); refine ⟨_, c, rfl, H6.out.1.p, ?_⟩)
          | ((with_reducible refine wp_load_box_g rfl _ rfl ?_); refine ⟨_, c, rfl, H4.out.1.p, ?_⟩)
          | ((with_reducible refine wp_load_box_g rfl _ rfl ?_); refine ⟨_, c, rfl, H2.out.p, ?_⟩)
          | ((with_reducible refine wp_load_box_g rfl _ rfl ?_); refine ⟨_, c, rfl, H1.out.p, ?_⟩)
          | (go_at_call 9; (with_reducible refine (HT.out _).mono ?_); rintro r w2 ⟨rfl, hb⟩; have H2 := Lib.hid (H1.out.next hb); clear hb)
          | ((with_reducible refine mv_load_rowG rfl 33 _ rfl Tryd.underlying33 rfl ?_); refine ⟨_, _, _, rfl, H1.out.m, Tryd.info_mvB _ _ _ _ _, ?_⟩)
          | (go_at_call 12; (with_reducible refine (HQ.out _).mono ?_); rintro r w5 ⟨rfl, hb⟩; have H5 := Lib.hid (H2.out.next hb); clear hb)
          | ((with_reducible refine wp_store_row' rfl 33 _ _ rfl ?_); refine ⟨w5.heap.size, 33, movC 0 0 0 0 false, rfl, rfl, ⟨_, heap_alloc_new _ _, (by kernel_rfl)⟩, Tryd.info_mvB _ _ _ _ _, Tryd.one_mvB _ _ _ _ _, ?_⟩; intro W6 hP hq; have H6 := Lib.hid (And.intro ((H5.out.next ((Below.refl _ _).alloc (Nat.le_refl _) _)).other hP H5.out.m.lt) hq); clear hP hq)
          | ((with_reducible refine mv_load_rowG rfl 33 _ rfl Tryd.underlying33 rfl ?_); refine ⟨_, _, _, rfl, H6.out.2, Tryd.info_mvB _ _ _ _ _, ?_⟩)
          | ((with_reducible refine wpl_eql_mv rfl _ _ _ rfl ?_); refine ⟨(0, 0, 0, 0, false), (0, 0, 0, 0, false), rfl, rfl, ?_⟩; rw [N.mv_selfE]))
        go_ret
        exact ⟨by first | rfl | simp, H6.out.1.below⟩
end Go.Proofs.YtldpejeodhkgdaaDoor
