/- The laws of layer 27: OrderStays. -/
import Derived.Test.YtdcmjbebkmicaaaOrdP
import Derived.Test.YtdcmjbebkmicaaaOrdQ
namespace Go.Proofs.Ytdcmjbebkmicaaa
open Go.RowKit Go.Sort Go.Lib

theorem row_addO {W : World} {g : Nat} {T : TypeId} {l : List Value} (h : RowAt W g T l.toArray) : ∀ (j : Nat) (u : Value), l[j]? = some u → W.cell? ((⟨g, 0, none⟩ : Addr).add j) = some u := by
  intro j u hu
  have : ((⟨g, 0, none⟩ : Addr).add j) = ⟨g, j, none⟩ := by unfold Addr.add; split <;> simp_all
  rw [this, h.cell]
  simpa using hu
theorem M.cell_oneO (m : Mv) : ∀ u ∈ M.cell m, u.oneCell' = true := by
  intro u hu
  simp [M.cell] at hu
  rcases hu with rfl | rfl | rfl | rfl | rfl <;> rfl
/-- A move out of a slice. -/
theorem M.Reads.at {w W : World} {v : Value} {l : List Mv} {ao : Option Addr} {n cap : Nat} (h : M.Reads w v l) (hb : Below w.heap.size w W) (hv : v = .slice ao n cap) (i : Nat) (x : Mv) (hx : l[i]? = some x) :
    ∃ b off, ao = some ⟨b, off, none⟩ ∧ b < W.heap.size ∧ M.At W b (off + i * 5) x := by
  obtain ⟨ao', cap', e, _, _, _, h5⟩ := h.below hb
  rw [hv] at e
  injection e with e1 e2 e3
  subst e1
  obtain ⟨b, off, e, hlt, hc⟩ := h5 (by have := (List.getElem?_eq_some_iff.1 hx).1; omega)
  exact ⟨b, off, e, hlt, fun j u hu => by rw [Nat.add_assoc]; exact hc _ u (M.cells_at l i x hx j u hu)⟩

set_option maxRecDepth 100000 in
set_option maxHeartbeats 4000000 in
theorem orderStays_walk (c : Nat → Int) (l : List Mv) (v : Value) (w : World) (hc : PosOk c) (hl : ∀ m ∈ l, O.MvOk m) (hr : M.Reads w v l) :
    Calls Try.prog 5 #[.agg (posC c), v] w fun e w' => e = .returned (.bool true) ∧ Below w.heap.size w w' := by
  have hb0 : Below w.heap.size w (w.alloc (.cells (posC c) 31)) := (Below.refl _ _).alloc (Nat.le_refl _) _
  have hp := PosAt.new w c
  obtain ⟨ao, cap, hv, h1, h2, -⟩ := id hr
  subst hv
  have HR := Lib.hid (fun W (hb : Below w.heap.size w W) => hr.below hb)
  have HCL := Lib.hid (And.intro hc hl)
  clear hr hc hl
  go_enter Try.func5, Try.ntmps5
  go_wp2_with fail
  refine (awake27_any _).mono ?_
  rintro e w1 ⟨rfl, hb⟩
  replace hp := hp.below hb
  replace hb0 := below_next hb0 hb
  clear hb
  by_cases hlen : 200 < l.length
  · have hlI : (200 : Int) < (l.length : Int) := by omega
    go_wp2_with fail
    go_ret
    exact ⟨rfl, hb0⟩
  · have hlI : ¬ (200 : Int) < (l.length : Int) := by omega
    go_wp2_with (first
      | ((with_reducible refine wp_load_box rfl _ rfl ?_); refine ⟨_, _, rfl, hp, ?_⟩)
      | ((with_reducible refine wp_load_box_g rfl _ rfl ?_); refine ⟨_, _, rfl, hp, ?_⟩)
      | fail)
    refine (osort_any c l _ w1 HCL.out.1 HCL.out.2 (by omega) (HR.out _ hb0)).mono ?_
    rintro e w2 ⟨v2, l2, rfl, hs, hown, hb⟩
    replace hp := hp.below hb
    replace hb0 := below_next hb0 hb
    clear hb
    have hlen2 := O.sorted_len hs
    have Hfil := Lib.hid (O.sorted_still HCL.out.1 HCL.out.2 hs)
    have hr2 : M.Reads w2 v2 l2 := M.reads_own (by rw [hlen2]; exact hown)
    obtain ⟨ao2, cap2, hv2, k1, k2, -⟩ := id hr2
    subst hv2
    have HA1 := Lib.hid (fun W (h : Below w2.heap.size w2 W) i x (hx : l[i]? = some x) => (HR.out _ hb0).at h rfl i x hx)
    have HA2 := Lib.hid (fun W (h : Below w2.heap.size w2 W) i x (hx : l2[i]? = some x) => hr2.at h rfl i x hx)
    have HP := Lib.hid (fun W (h : Below w2.heap.size w2 W) => hp.below h)
    have HB := Lib.hid hb0
    rw [hlen2] at k1 ⊢
    obtain ⟨q, hq⟩ : ∃ q, l.length = q := ⟨_, rfl⟩
    have Hq := Lib.hid (And.intro hq (hlen2.trans hq))
    rw [hq] at h1 k1 hlen hlI ⊢
    unfold maxLen at k2 h2
    clear hown hp hb0 hs hq hlen2 hr2 HR
    obtain ⟨i0, hi, hz0, hz1, hz2⟩ := info_parts Try.info_MoveO
    go_wp2_with fail
    go_loopw [5, 8] (fun vs vi wr => ∃ n : Nat, n ≤ q ∧ vi = .int .i64 (n : Int) ∧ wr.ownsRow w2.heap.size 33 5 vs ((l.take n).filter (O.still c)).length (M.cells ((l.take n).filter (O.still c))) ∧ Below w2.heap.size w2 wr) (fun _ vi _ => q - (intOf vi).toNat)
    case atStart => exact ⟨0, by omega, rfl, World.ownsRow_nil _ _ _ _, Below.refl _ _⟩
    case round =>
      obtain ⟨n, hn, rfl, hown, hbr⟩ := hrel
      have hl5 : ((l.take n).filter (O.still c)).length ≤ 200 := Nat.le_trans (List.length_filter_le _ _) (by rw [List.length_take]; omega)
      have hbs0 := hbr.size
      by_cases hlt : n < q
      · obtain ⟨⟨f, t, p, d, ca⟩, hx⟩ : ∃ m, l[n]? = some m := ⟨_, List.getElem?_eq_getElem (by rw [Hq.out.1]; exact hlt)⟩
        obtain ⟨b, off, e, hbs, ha⟩ := HA1.out wr hbr n _ hx
        subst e
        have hst : (l.take (n + 1)).filter (O.still c) = ((l.take n).filter (O.still c)) ++ if O.still c (f, t, p, d, ca) = true then [(f, t, p, d, ca)] else [] := by
          rw [List.take_add_one, hx, List.filter_append, Option.toList_some]
          by_cases hs : O.still c (f, t, p, d, ca) = true
          · rw [if_pos hs, List.filter_cons_of_pos hs]; rfl
          · rw [if_neg hs, List.filter_cons_of_neg hs]; rfl
        obtain ⟨x, hxx⟩ : ∃ x, O.taken c (f, t, p, d, ca) = x := ⟨_, rfl⟩
        have hsv : O.still c (f, t, p, d, ca) = (x == 0 && p == 0) := by unfold O.still; rw [hxx]
        rw [hsv] at hst
        have KT := Lib.hid (fun W => O.taken_row c f t p d ca x W HCL.out.1 hxx)
        have hp := HP.out wr hbr
        have hls := hp.lt
        obtain ⟨a0, a1, a2, a3, a4⟩ := ha.five
        obtain ⟨N, hN⟩ : ∃ N, ((l.take n).filter (O.still c)) = N := ⟨_, rfl⟩
        rw [hN] at hown hst hl5
        clear hsv hxx hx hN
        by_cases hx0 : x = 0
        · subst hx0
          by_cases hp0 : p = 0
          · subst hp0
            rw [if_pos (by decide)] at hst
            have Hst := Lib.hid hst
            clear hst
            go_wp2_with fail
            refine region_grows (by kernel_rfl) (by kernel_rfl) ?_
            repeat (first
              | (go_big_quiet_want; refine quiet_load_grown _ rfl ⟨_, _, rfl, hp, ?_⟩; simp only [Act.put, List.setIfInBounds_toArray, List.set_cons_succ, List.set_cons_zero]; go_big_quiet_on)
              | (go_big_quiet_want; refine quiet_load_at _ rfl ⟨_, _, _, rfl, ha, ?_⟩; simp only [Act.put, List.setIfInBounds_toArray, List.set_cons_succ, List.set_cons_zero]; go_big_quiet_on)
              | go_big_quiet_step (first
                | (go_at_call 14; with_reducible exact quiet_grows (KT.out _))))
            refine wpQuiet_nil ?_
            intro w4 hg4
            have hb4 := hg4.below
            replace hown := owns_below hown hb4
            have hbw := hbr.trans (hb4.mono hbr.size)
            have hbw2 := hbw.size
            have ha4 := ha.below hb4
            clear a0 a1 a2 a3 a4
            obtain ⟨a0, a1, a2, a3, a4⟩ := ha4.five
            have hbs4 : b < w4.heap.size := Nat.lt_of_lt_of_le hbs hb4.size
            go_wp2_with (first
              | (at_builtin; refine wpList_append_own _ rfl _ _ 40 rfl w2.heap.size 33 i0 (.agg #[.int .i8 0, .int .i8 0, .int .u8 0, .int .u8 0, .bool false]) 5 5 Try.underlying40 hi hz0 hz1 hz2 rfl (by decide) _ _ _ rfl (hown.alloc _) ⟨_, 0, none⟩ 1 1 (M.cell (f, t, 0, d, ca)) rfl rfl (row_addO (RowAt.new w4 (M.cell (f, t, 0, d, ca)).toArray 33)) (M.cell_oneO _) (by unfold maxLen; omega) (by omega) (by simp; omega) ?_; intro v' w5 hown' hgrow _)
              | fail)
            refine ⟨⟨n + 1, by omega, by go_num, ?_, ?_⟩, by simp [intOf]; omega⟩
            · rw [Hst.out, M.cells_snoc, List.length_append]; exact hown'
            · exact (hbw.alloc hbw.size _).grown hgrow (by simp; omega) (fun q hq => by have := (hown.lt q hq).1; omega)
          · have e2 : (p == 0) = false := by simpa using hp0
            rw [if_neg (by rw [e2]; simp), List.append_nil] at hst
            have Hst := Lib.hid hst
            clear hst
            go_wp2_with fail
            refine region_grows (by kernel_rfl) (by kernel_rfl) ?_
            repeat (first
              | (go_big_quiet_want; refine quiet_load_grown _ rfl ⟨_, _, rfl, hp, ?_⟩; simp only [Act.put, List.setIfInBounds_toArray, List.set_cons_succ, List.set_cons_zero]; go_big_quiet_on)
              | (go_big_quiet_want; refine quiet_load_at _ rfl ⟨_, _, _, rfl, ha, ?_⟩; simp only [Act.put, List.setIfInBounds_toArray, List.set_cons_succ, List.set_cons_zero]; go_big_quiet_on)
              | go_big_quiet_step (first
                | (go_at_call 14; with_reducible exact quiet_grows (KT.out _))))
            refine wpQuiet_nil ?_
            intro w4 hg4
            have hb4 := hg4.below
            replace hown := owns_below hown hb4
            have hbw := hbr.trans (hb4.mono hbr.size)
            have hbw2 := hbw.size
            go_wp2_with fail
            refine ⟨⟨n + 1, by omega, by go_num, by rw [Hst.out]; exact hown, hbw⟩, by simp [intOf]; omega⟩
        · have e2 : (x == 0) = false := by simpa using hx0
          rw [if_neg (by rw [e2]; simp), List.append_nil] at hst
          have Hst := Lib.hid hst
          clear hst
          go_wp2_with fail
          refine region_grows (by kernel_rfl) (by kernel_rfl) ?_
          repeat (first
            | (go_big_quiet_want; refine quiet_load_grown _ rfl ⟨_, _, rfl, hp, ?_⟩; simp only [Act.put, List.setIfInBounds_toArray, List.set_cons_succ, List.set_cons_zero]; go_big_quiet_on)
            | (go_big_quiet_want; refine quiet_load_at _ rfl ⟨_, _, _, rfl, ha, ?_⟩; simp only [Act.put, List.setIfInBounds_toArray, List.set_cons_succ, List.set_cons_zero]; go_big_quiet_on)
            | go_big_quiet_step (first
              | (go_at_call 14; with_reducible exact quiet_grows (KT.out _))))
          refine wpQuiet_nil ?_
          intro w4 hg4
          have hb4 := hg4.below
          replace hown := owns_below hown hb4
          have hbw := hbr.trans (hb4.mono hbr.size)
          have hbw2 := hbw.size
          go_wp2_with fail
          refine ⟨⟨n + 1, by omega, by go_num, by rw [Hst.out]; exact hown, hbw⟩, by simp [intOf]; omega⟩
      · obtain rfl : q = n := by omega
        rw [List.take_of_length_le (by rw [Hq.out.1]; exact Nat.le_refl _)] at hown
        have hrr := M.reads_own hown
        obtain ⟨ao5, cap5, rfl, f1, f2, -, -⟩ := id hrr
        have HQ0 := Lib.hid (fun W (h : Below wr.heap.size wr W) i x (hx : (l.filter (O.still c))[i]? = some x) => hrr.at h rfl i x hx)
        have HA3 := Lib.hid (fun W (h : Below wr.heap.size wr W) i x (hx : l2[i]? = some x) => HA2.out W (hbr.trans (h.mono hbr.size)) i x hx)
        have HP3 := Lib.hid (fun W (h : Below wr.heap.size wr W) => HP.out W (hbr.trans (h.mono hbr.size)))
        have HB3 := Lib.hid (below_next HB.out hbr)
        clear hown hrr hbr hl5 hbs0 hlt hn HA1 HA2 HP HB
        revert HQ0 HA3 HP3 HB3
        generalize wr = w3
        intro HQ0 HA3 HP3 HB3
        unfold maxLen at f2
        go_wp2_with fail
        go_loopw [6, 9] (fun vs vi wr => ∃ n : Nat, n ≤ q ∧ vi = .int .i64 (n : Int) ∧ wr.ownsRow w3.heap.size 33 5 vs ((l2.take n).filter (O.still c)).length (M.cells ((l2.take n).filter (O.still c))) ∧ Below w3.heap.size w3 wr) (fun _ vi _ => q - (intOf vi).toNat)
        case atStart => exact ⟨0, by omega, rfl, World.ownsRow_nil _ _ _ _, Below.refl _ _⟩
        case round =>
          obtain ⟨n, hn, rfl, hown, hbr⟩ := hrel
          have hl5 : ((l2.take n).filter (O.still c)).length ≤ 200 := Nat.le_trans (List.length_filter_le _ _) (by rw [List.length_take]; omega)
          have hbs0 := hbr.size
          by_cases hlt : n < q
          · obtain ⟨⟨f, t, p, d, ca⟩, hx⟩ : ∃ m, l2[n]? = some m := ⟨_, List.getElem?_eq_getElem (by rw [Hq.out.2]; exact hlt)⟩
            obtain ⟨b, off, e, hbs, ha⟩ := HA3.out wr hbr n _ hx
            subst e
            have hst : (l2.take (n + 1)).filter (O.still c) = ((l2.take n).filter (O.still c)) ++ if O.still c (f, t, p, d, ca) = true then [(f, t, p, d, ca)] else [] := by
              rw [List.take_add_one, hx, List.filter_append, Option.toList_some]
              by_cases hs : O.still c (f, t, p, d, ca) = true
              · rw [if_pos hs, List.filter_cons_of_pos hs]; rfl
              · rw [if_neg hs, List.filter_cons_of_neg hs]; rfl
            obtain ⟨x, hxx⟩ : ∃ x, O.taken c (f, t, p, d, ca) = x := ⟨_, rfl⟩
            have hsv : O.still c (f, t, p, d, ca) = (x == 0 && p == 0) := by unfold O.still; rw [hxx]
            rw [hsv] at hst
            have KT := Lib.hid (fun W => O.taken_row c f t p d ca x W HCL.out.1 hxx)
            have hp := HP3.out wr hbr
            have hls := hp.lt
            obtain ⟨a0, a1, a2, a3, a4⟩ := ha.five
            obtain ⟨N, hN⟩ : ∃ N, ((l2.take n).filter (O.still c)) = N := ⟨_, rfl⟩
            rw [hN] at hown hst hl5
            clear hsv hxx hx hN
            by_cases hx0 : x = 0
            · subst hx0
              by_cases hp0 : p = 0
              · subst hp0
                rw [if_pos (by decide)] at hst
                have Hst := Lib.hid hst
                clear hst
                go_wp2_with fail
                refine region_grows (by kernel_rfl) (by kernel_rfl) ?_
                repeat (first
                  | (go_big_quiet_want; refine quiet_load_grown _ rfl ⟨_, _, rfl, hp, ?_⟩; simp only [Act.put, List.setIfInBounds_toArray, List.set_cons_succ, List.set_cons_zero]; go_big_quiet_on)
                  | (go_big_quiet_want; refine quiet_load_at _ rfl ⟨_, _, _, rfl, ha, ?_⟩; simp only [Act.put, List.setIfInBounds_toArray, List.set_cons_succ, List.set_cons_zero]; go_big_quiet_on)
                  | go_big_quiet_step (first
                    | (go_at_call 14; with_reducible exact quiet_grows (KT.out _))))
                refine wpQuiet_nil ?_
                intro w4 hg4
                have hb4 := hg4.below
                replace hown := owns_below hown hb4
                have hbw := hbr.trans (hb4.mono hbr.size)
                have hbw2 := hbw.size
                have ha4 := ha.below hb4
                clear a0 a1 a2 a3 a4
                obtain ⟨a0, a1, a2, a3, a4⟩ := ha4.five
                have hbs4 : b < w4.heap.size := Nat.lt_of_lt_of_le hbs hb4.size
                go_wp2_with (first
                  | (at_builtin; refine wpList_append_own _ rfl _ _ 40 rfl w3.heap.size 33 i0 (.agg #[.int .i8 0, .int .i8 0, .int .u8 0, .int .u8 0, .bool false]) 5 5 Try.underlying40 hi hz0 hz1 hz2 rfl (by decide) _ _ _ rfl (hown.alloc _) ⟨_, 0, none⟩ 1 1 (M.cell (f, t, 0, d, ca)) rfl rfl (row_addO (RowAt.new w4 (M.cell (f, t, 0, d, ca)).toArray 33)) (M.cell_oneO _) (by unfold maxLen; omega) (by omega) (by simp; omega) ?_; intro v' w5 hown' hgrow _)
                  | fail)
                refine ⟨⟨n + 1, by omega, by go_num, ?_, ?_⟩, by simp [intOf]; omega⟩
                · rw [Hst.out, M.cells_snoc, List.length_append]; exact hown'
                · exact (hbw.alloc hbw.size _).grown hgrow (by simp; omega) (fun q hq => by have := (hown.lt q hq).1; omega)
              · have e2 : (p == 0) = false := by simpa using hp0
                rw [if_neg (by rw [e2]; simp), List.append_nil] at hst
                have Hst := Lib.hid hst
                clear hst
                go_wp2_with fail
                refine region_grows (by kernel_rfl) (by kernel_rfl) ?_
                repeat (first
                  | (go_big_quiet_want; refine quiet_load_grown _ rfl ⟨_, _, rfl, hp, ?_⟩; simp only [Act.put, List.setIfInBounds_toArray, List.set_cons_succ, List.set_cons_zero]; go_big_quiet_on)
                  | (go_big_quiet_want; refine quiet_load_at _ rfl ⟨_, _, _, rfl, ha, ?_⟩; simp only [Act.put, List.setIfInBounds_toArray, List.set_cons_succ, List.set_cons_zero]; go_big_quiet_on)
                  | go_big_quiet_step (first
                    | (go_at_call 14; with_reducible exact quiet_grows (KT.out _))))
                refine wpQuiet_nil ?_
                intro w4 hg4
                have hb4 := hg4.below
                replace hown := owns_below hown hb4
                have hbw := hbr.trans (hb4.mono hbr.size)
                have hbw2 := hbw.size
                go_wp2_with fail
                refine ⟨⟨n + 1, by omega, by go_num, by rw [Hst.out]; exact hown, hbw⟩, by simp [intOf]; omega⟩
            · have e2 : (x == 0) = false := by simpa using hx0
              rw [if_neg (by rw [e2]; simp), List.append_nil] at hst
              have Hst := Lib.hid hst
              clear hst
              go_wp2_with fail
              refine region_grows (by kernel_rfl) (by kernel_rfl) ?_
              repeat (first
                | (go_big_quiet_want; refine quiet_load_grown _ rfl ⟨_, _, rfl, hp, ?_⟩; simp only [Act.put, List.setIfInBounds_toArray, List.set_cons_succ, List.set_cons_zero]; go_big_quiet_on)
                | (go_big_quiet_want; refine quiet_load_at _ rfl ⟨_, _, _, rfl, ha, ?_⟩; simp only [Act.put, List.setIfInBounds_toArray, List.set_cons_succ, List.set_cons_zero]; go_big_quiet_on)
                | go_big_quiet_step (first
                  | (go_at_call 14; with_reducible exact quiet_grows (KT.out _))))
              refine wpQuiet_nil ?_
              intro w4 hg4
              have hb4 := hg4.below
              replace hown := owns_below hown hb4
              have hbw := hbr.trans (hb4.mono hbr.size)
              have hbw2 := hbw.size
              go_wp2_with fail
              refine ⟨⟨n + 1, by omega, by go_num, by rw [Hst.out]; exact hown, hbw⟩, by simp [intOf]; omega⟩
          · obtain rfl : q = n := by omega
            rw [List.take_of_length_le (by rw [Hq.out.2]; exact Nat.le_refl _), Hfil.out] at hown
            have hrr := M.reads_own hown
            obtain ⟨ao6, cap6, rfl, g1, g2, -, -⟩ := id hrr
            have HQ2 := Lib.hid (fun W (h : Below wr.heap.size wr W) i x (hx : (l.filter (O.still c))[i]? = some x) => hrr.at h rfl i x hx)
            have HQ1 := Lib.hid (fun W (h : Below wr.heap.size wr W) i x (hx : (l.filter (O.still c))[i]? = some x) => HQ0.out W (hbr.trans (h.mono hbr.size)) i x hx)
            have HBB := Lib.hid (HB3.out.trans (hbr.mono HB3.out.size))
            clear hown hrr hbr hl5 hbs0 hlt hn HQ0 HB3
            revert HQ1 HQ2 HBB
            generalize wr = w7
            intro HQ1 HQ2 HBB
            unfold maxLen at g2
            obtain ⟨k, hk⟩ : ∃ k, (l.filter (O.still c)).length = k := ⟨_, rfl⟩
            have hk200 : k ≤ 200 := by rw [← hk]; exact Nat.le_trans (List.length_filter_le _ _) (by rw [Hq.out.1]; omega)
            rw [hk]
            have Hk := Lib.hid hk
            clear hk
            go_wp2_with fail
            go_loopw [10] (fun vi wr => ∃ n : Nat, n ≤ k ∧ vi = .int .i64 (n : Int) ∧ Below w7.heap.size w7 wr) (fun vi _ => k - (intOf vi).toNat)
            case atStart => exact ⟨0, by omega, rfl, Below.refl _ _⟩
            case round =>
              obtain ⟨n, hn, rfl, hbr⟩ := hrel
              by_cases hlt : n < k
              · obtain ⟨x, hx⟩ : ∃ m, (l.filter (O.still c))[n]? = some m := ⟨_, List.getElem?_eq_getElem (by rw [Hk.out]; exact hlt)⟩
                obtain ⟨b5, off5, e5, hbs5, ha5⟩ := HQ1.out wr hbr n _ hx
                obtain ⟨b6, off6, e6, hbs6, ha6⟩ := HQ2.out wr hbr n _ hx
                subst e5 e6
                clear hx
                have hxx : (x != x) = false := by simp
                go_wp2_with fail
                refine region_grows (by kernel_rfl) (by kernel_rfl) ?_
                repeat (first
                  | (go_big_quiet_want; refine quiet_load_at _ rfl ⟨_, _, _, rfl, ha5, ?_⟩; simp only [Act.put, List.setIfInBounds_toArray, List.set_cons_succ, List.set_cons_zero]; go_big_quiet_on)
                  | (go_big_quiet_want; refine quiet_load_at _ rfl ⟨_, _, _, rfl, ha6, ?_⟩; simp only [Act.put, List.setIfInBounds_toArray, List.set_cons_succ, List.set_cons_zero]; go_big_quiet_on)
                  | (go_big_quiet_want; refine quiet_neq_mv _ _ _ rfl ⟨x, x, rfl, rfl, ?_⟩; simp only [hxx, Act.put, List.setIfInBounds_toArray, List.set_cons_succ, List.set_cons_zero]; go_big_quiet_on)
                  | go_big_quiet_step (fail))
                refine wpQuiet_nil ?_
                intro w8 hg8
                go_wp2_with fail
                exact ⟨⟨n + 1, by omega, by go_num, hbr.trans (hg8.below.mono hbr.size)⟩, by simp [intOf]; omega⟩
              · obtain rfl : n = k := by omega
                go_wp2_with fail
                go_ret
                exact ⟨rfl, HBB.out.trans (hbr.mono HBB.out.size)⟩

end Go.Proofs.Ytdcmjbebkmicaaa
