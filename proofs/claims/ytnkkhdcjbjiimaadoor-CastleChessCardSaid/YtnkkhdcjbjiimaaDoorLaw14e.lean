/- The law CastleChess. -/
import Derived.Test.YtnkkhdcjbjiimaaDoorChessQ
import Derived.Test.YtnkkhdcjbjiimaaDoorOpenM
namespace Go.Proofs.YtnkkhdcjbjiimaaDoor
open Go.RowKit Go.Sort
attribute [local go_sem] Oper.semAt_some

theorem T.ch_cell (b : Nat → Int) {W : World} {G : Nat} (h : PosAt W G (T.chC b 64)) (s : Nat) (hs : s < 64) : W.cell? ⟨G, 1 + s, none⟩ = some (.int .u8 (T.chV b s)) := by
  rw [h.bd hs, T.chF b s hs]

set_option maxRecDepth 100000 in
set_option maxHeartbeats 8000000 in
theorem castleChess_walk (b : Nat → Int) (w : World) (hb : BrdOk b) (hT : Tb w) :
    Calls Tryd.prog 5 #[.agg (brdL b).toArray] w fun e w' => e = .returned (.bool true) ∧ Below w.heap.size w w' := by
  have HT := Lib.hid (fun W (hb : Below w.heap.size w W) => tb_below hT hb)
  have hb0 : Below w.heap.size w (w.alloc (.cells (brdL b).toArray 22)) := (Below.refl _ _).alloc (Nat.le_refl _) _
  have hR := RowAt.new w (brdL b).toArray 22
  have Hb := Lib.hid hb
  clear hT hb
  go_enter Tryd.func5, Tryd.ntmps5
  go_wp2_with fail
  refine (first14_any _).mono ?_
  rintro e w1 ⟨rfl, hbb⟩
  replace hR := hR.below hbb
  replace hb0 := below_next hb0 hbb
  clear hbb
  have hlt := hR.lt
  go_wp2_with (first
    | ((with_reducible refine wp_store_box rfl _ _ rfl ?_); refine ⟨_, T.firstP, rfl, rfl, ⟨_, heap_alloc_new _ _, zero31_sizeC⟩, ?_⟩; intro V hV hp; replace hR := hV.row (hR.alloc _) (by omega); replace hb0 := hV.below (hb0.alloc hb0.size _) hb0.size)
    | fail)
  have H0 := Lib.hid (And.intro hp (And.intro hR hb0))
  obtain ⟨G, hG⟩ : ∃ G, w1.heap.size = G := ⟨_, rfl⟩
  rw [hG] at H0 hlt ⊢
  clear hp hR hb0 hV hG
  go_loopw [4] (fun i wr => ∃ n : Nat, n ≤ 64 ∧ i = .int .i64 (n : Int) ∧ PosAt wr G (T.chC b n) ∧ RowAt wr w.heap.size 22 (brdL b).toArray ∧ Below w.heap.size w wr) (fun i _ => 64 - (intOf i).toNat)
  case atStart => exact ⟨0, by omega, rfl, by rw [T.chC_zero]; exact H0.out.1, H0.out.2.1, H0.out.2.2⟩
  case round =>
    obtain ⟨n, hn, rfl, hp, hR, hbr⟩ := hrel
    by_cases hlt64 : n < 64
    · have hn64 := hlt64
      have hnI : (n : Int) < 64 := by omega
      have hcb := hR.cell n
      rw [List.getElem?_toArray, brdL_get b n hlt64] at hcb
      have hcp := hp.bd (s := n) hlt64
      rw [T.chC_next] at hcp
      obtain ⟨b0, b1⟩ := Hb.out n hlt64
      have hlp := hp.lt
      have hlr := hR.lt
      obtain ⟨x, hx⟩ : ∃ x, b n % 16 = x := ⟨_, rfl⟩
      obtain ⟨kd, hkd⟩ : ∃ kd, x % 8 = kd := ⟨_, rfl⟩
      obtain ⟨f, hf⟩ : ∃ f, T.firstP (1 + n) = f := ⟨_, rfl⟩
      have hm1 : (b n).tmod 16 = x := by rw [Int.tmod_eq_emod_of_nonneg b0]; exact hx
      have hm2 : x.tmod 8 = kd := by rw [Int.tmod_eq_emod_of_nonneg (by omega)]; exact hkd
      have hx0 : 0 ≤ x := by omega
      have hx15 : x ≤ 15 := by omega
      have hk0 : 0 ≤ kd := by omega
      have hk7 : kd ≤ 7 := by omega
      have hch : T.chV b n = if f ≠ 0 then f else if 1 ≤ kd ∧ kd ≤ 5 then (if n < 8 ∧ 8 < x then x - 8 else x) else 0 := by
        unfold T.chV; rw [hf, hx, hkd]
      rw [hf] at hcp
      have Hf := Lib.hid hf
      clear hf hx hkd
      by_cases k1 : kd < 1
      · have Hsk := Lib.hid (show T.chV b n = T.firstP (1 + n) by rw [hch, Hf.out]; by_cases h : f ≠ 0; rw [if_pos h]; rw [if_neg h, if_neg (by omega)]; omega)
        clear hch
        go_wp2_with (first
          | ((with_reducible refine wp_store_cell rfl _ _ _ rfl ?_); refine ⟨_, _, _, _, _, rfl, rfl, hp, (by omega), (by exact pk_board hn64), Tryd.size_u8, ?_⟩; intro V2 hV2 hp2))
        exact ⟨⟨n + 1, by omega, by go_num, by rw [T.chC_skip b n Hsk.out]; exact hp, hR, hbr⟩, by simp [intOf]; omega⟩
      · by_cases k2 : 5 < kd
        · have Hsk := Lib.hid (show T.chV b n = T.firstP (1 + n) by rw [hch, Hf.out]; by_cases h : f ≠ 0; rw [if_pos h]; rw [if_neg h, if_neg (by omega)]; omega)
          clear hch
          go_wp2_with (first
            | ((with_reducible refine wp_store_cell rfl _ _ _ rfl ?_); refine ⟨_, _, _, _, _, rfl, rfl, hp, (by omega), (by exact pk_board hn64), Tryd.size_u8, ?_⟩; intro V2 hV2 hp2))
          exact ⟨⟨n + 1, by omega, by go_num, by rw [T.chC_skip b n Hsk.out]; exact hp, hR, hbr⟩, by simp [intOf]; omega⟩
        · cases k3 : (f != 0)
          · have hf0 : f = 0 := by simpa using k3
            rw [if_neg (by omega), if_pos (by omega)] at hch
            by_cases k4 : n < 8
            · by_cases k5 : 8 < x
              · have Hv := Lib.hid (hch.trans (if_pos ⟨k4, k5⟩))
                have hw8 : IntKind.u8.wrap (x - 8) = x - 8 := by unfold IntKind.wrap; simp [IntKind.bits, IntKind.signed]; omega
                clear hch hf0
                go_wp2_with (first
                  | ((with_reducible refine wp_store_cell rfl _ _ _ rfl ?_); refine ⟨_, _, _, _, _, rfl, rfl, hp, (by omega), (by exact pk_board hn64), Tryd.size_u8, ?_⟩; intro V2 hV2 hp2))
                exact ⟨⟨n + 1, by omega, by go_num, by rw [T.chC_succ, Hv.out]; exact hp2, hV2.row hR (by omega), hV2.below hbr (by omega)⟩, by simp [intOf]; omega⟩
              · have Hv := Lib.hid (hch.trans (if_neg (fun h => k5 h.2)))
                clear hch hf0
                go_wp2_with (first
                  | ((with_reducible refine wp_store_cell rfl _ _ _ rfl ?_); refine ⟨_, _, _, _, _, rfl, rfl, hp, (by omega), (by exact pk_board hn64), Tryd.size_u8, ?_⟩; intro V2 hV2 hp2))
                exact ⟨⟨n + 1, by omega, by go_num, by rw [T.chC_succ, Hv.out]; exact hp2, hV2.row hR (by omega), hV2.below hbr (by omega)⟩, by simp [intOf]; omega⟩
            · have Hv := Lib.hid (hch.trans (if_neg (fun h => k4 h.1)))
              clear hch hf0
              go_wp2_with (first
                | ((with_reducible refine wp_store_cell rfl _ _ _ rfl ?_); refine ⟨_, _, _, _, _, rfl, rfl, hp, (by omega), (by exact pk_board hn64), Tryd.size_u8, ?_⟩; intro V2 hV2 hp2))
              exact ⟨⟨n + 1, by omega, by go_num, by rw [T.chC_succ, Hv.out]; exact hp2, hV2.row hR (by omega), hV2.below hbr (by omega)⟩, by simp [intOf]; omega⟩
          · have Hsk := Lib.hid (show T.chV b n = T.firstP (1 + n) by rw [hch, Hf.out, if_pos (by simpa using k3)])
            clear hch
            go_wp2_with (first
              | ((with_reducible refine wp_store_cell rfl _ _ _ rfl ?_); refine ⟨_, _, _, _, _, rfl, rfl, hp, (by omega), (by exact pk_board hn64), Tryd.size_u8, ?_⟩; intro V2 hV2 hp2))
            exact ⟨⟨n + 1, by omega, by go_num, by rw [T.chC_skip b n Hsk.out]; exact hp, hR, hbr⟩, by simp [intOf]; omega⟩
    · obtain rfl : n = 64 := by omega
      go_wp2_with (first
        | ((with_reducible refine wp_load_box rfl _ rfl ?_); refine ⟨_, _, rfl, hp, ?_⟩)
        | fail)
      have hbd := T.ch_bd b
      have c0 : (T.chC b 64) 0 = 0 := by rw [T.chO b 0 (by omega)]; rfl
      obtain ⟨s4, hs4⟩ : ∃ s4, T.chS b 4 = s4 := ⟨_, rfl⟩
      refine (check_eq' (T.chC b 64) 0 (!s4) _ hbd (HT.out _ hbr) (by rw [c0]; decide) (by decide) (by rw [← hs4]; exact T.ch_check b)).mono ?_
      rintro e w2 ⟨rfl, hb⟩
      replace hp := hp.below hb
      replace hbr := below_next hbr hb
      clear hb hR c0
      obtain ⟨t1, ht1⟩ : ∃ t1, (T.chV b 1 == 0) = t1 := ⟨_, rfl⟩
      obtain ⟨t2, ht2⟩ : ∃ t2, (T.chV b 2 == 0) = t2 := ⟨_, rfl⟩
      obtain ⟨t3, ht3⟩ : ∃ t3, (T.chV b 3 == 0) = t3 := ⟨_, rfl⟩
      obtain ⟨t5, ht5⟩ : ∃ t5, (T.chV b 5 == 0) = t5 := ⟨_, rfl⟩
      obtain ⟨t6, ht6⟩ : ∃ t6, (T.chV b 6 == 0) = t6 := ⟨_, rfl⟩
      obtain ⟨o2, ho2⟩ : ∃ o2, K.on (T.chC b 64) 2 1 = o2 := ⟨_, rfl⟩
      obtain ⟨o3, ho3⟩ : ∃ o3, K.on (T.chC b 64) 3 1 = o3 := ⟨_, rfl⟩
      obtain ⟨o5, ho5⟩ : ∃ o5, K.on (T.chC b 64) 5 1 = o5 := ⟨_, rfl⟩
      obtain ⟨o6, ho6⟩ : ∃ o6, K.on (T.chC b 64) 6 1 = o6 := ⟨_, rfl⟩
      have HA := Lib.hid (show T.chA b = (s4 && (t1 && (t2 && (t3 && (!o2 && !o3))))) by rw [← hs4, ← ht1, ← ht2, ← ht3, ← ho2, ← ho3]; rfl)
      have HH := Lib.hid (show T.chH b = (s4 && (t5 && (t6 && (!o5 && !o6)))) by rw [← hs4, ← ht5, ← ht6, ← ho5, ← ho6]; rfl)
      have HB := Lib.hid (fun (x y : Bool) (hx : T.chA b = x) (hy : T.chH b = y) => (show T.bothB (T.clist (T.chC b 64)) x y = true by rw [← hx, ← hy]; exact T.ch_both b))
      have HC := Lib.hid (fun (W : World) (h : PosAt W G (T.chC b 64)) => (show W.cell? ⟨G, 2, none⟩ = some (.int .u8 (T.chV b 1)) ∧ W.cell? ⟨G, 3, none⟩ = some (.int .u8 (T.chV b 2)) ∧ W.cell? ⟨G, 4, none⟩ = some (.int .u8 (T.chV b 3)) ∧ W.cell? ⟨G, 6, none⟩ = some (.int .u8 (T.chV b 5)) ∧ W.cell? ⟨G, 7, none⟩ = some (.int .u8 (T.chV b 6)) from ⟨T.ch_cell b h 1 (by omega), T.ch_cell b h 2 (by omega), T.ch_cell b h 3 (by omega), T.ch_cell b h 5 (by omega), T.ch_cell b h 6 (by omega)⟩))
      clear hs4
      obtain ⟨q1, q2, q3, q5, q6⟩ := HC.out _ hp
      clear hlt64 hn
      cases s4
      · go_wp2_with (first
          | ((with_reducible refine wp_load_box rfl _ rfl ?_); refine ⟨_, _, rfl, hp, ?_⟩)
          | ((with_reducible refine wp_load_box_g rfl _ rfl ?_); refine ⟨_, _, rfl, hp, ?_⟩)
          | (go_at_call 20; refine (on_eq' (T.chC b 64) _ 1 _ _ hbd (HT.out _ hbr) (by assumption)).mono ?_; rintro e u ⟨rfl, hb⟩; replace hp := hp.below hb; replace hbr := below_next hbr hb; clear hb; obtain ⟨q1, q2, q3, q5, q6⟩ := HC.out _ hp)
          | (go_at_call 21; refine (both14_eq (T.chC b 64) false false _ true _ (T.ch_ok b) (HT.out _ hbr) rfl (T.clist_len _) (HB.out _ _ (by rw [HA.out]; rfl) (by rw [HH.out]; rfl))).mono ?_; rintro e u ⟨rfl, hb⟩; replace hp := hp.below hb; replace hbr := below_next hbr hb; clear hb; obtain ⟨q1, q2, q3, q5, q6⟩ := HC.out _ hp)
          | (go_at_call 16; refine (awake14_any _ (HT.out _ hbr)).mono ?_; rintro e u ⟨rfl, hb⟩; replace hbr := below_next hbr hb; clear hb)
          | fail)
        go_ret
        exact ⟨rfl, hbr⟩
      · cases t1
        · cases t5
          · go_wp2_with (first
              | ((with_reducible refine wp_load_box rfl _ rfl ?_); refine ⟨_, _, rfl, hp, ?_⟩)
              | ((with_reducible refine wp_load_box_g rfl _ rfl ?_); refine ⟨_, _, rfl, hp, ?_⟩)
              | (go_at_call 20; refine (on_eq' (T.chC b 64) _ 1 _ _ hbd (HT.out _ hbr) (by assumption)).mono ?_; rintro e u ⟨rfl, hb⟩; replace hp := hp.below hb; replace hbr := below_next hbr hb; clear hb; obtain ⟨q1, q2, q3, q5, q6⟩ := HC.out _ hp)
              | (go_at_call 21; refine (both14_eq (T.chC b 64) false false _ true _ (T.ch_ok b) (HT.out _ hbr) rfl (T.clist_len _) (HB.out _ _ (by rw [HA.out]; rfl) (by rw [HH.out]; rfl))).mono ?_; rintro e u ⟨rfl, hb⟩; replace hp := hp.below hb; replace hbr := below_next hbr hb; clear hb; obtain ⟨q1, q2, q3, q5, q6⟩ := HC.out _ hp)
              | (go_at_call 16; refine (awake14_any _ (HT.out _ hbr)).mono ?_; rintro e u ⟨rfl, hb⟩; replace hbr := below_next hbr hb; clear hb)
              | fail)
            go_ret
            exact ⟨rfl, hbr⟩
          · cases t6
            · go_wp2_with (first
                | ((with_reducible refine wp_load_box rfl _ rfl ?_); refine ⟨_, _, rfl, hp, ?_⟩)
                | ((with_reducible refine wp_load_box_g rfl _ rfl ?_); refine ⟨_, _, rfl, hp, ?_⟩)
                | (go_at_call 20; refine (on_eq' (T.chC b 64) _ 1 _ _ hbd (HT.out _ hbr) (by assumption)).mono ?_; rintro e u ⟨rfl, hb⟩; replace hp := hp.below hb; replace hbr := below_next hbr hb; clear hb; obtain ⟨q1, q2, q3, q5, q6⟩ := HC.out _ hp)
                | (go_at_call 21; refine (both14_eq (T.chC b 64) false false _ true _ (T.ch_ok b) (HT.out _ hbr) rfl (T.clist_len _) (HB.out _ _ (by rw [HA.out]; rfl) (by rw [HH.out]; rfl))).mono ?_; rintro e u ⟨rfl, hb⟩; replace hp := hp.below hb; replace hbr := below_next hbr hb; clear hb; obtain ⟨q1, q2, q3, q5, q6⟩ := HC.out _ hp)
                | (go_at_call 16; refine (awake14_any _ (HT.out _ hbr)).mono ?_; rintro e u ⟨rfl, hb⟩; replace hbr := below_next hbr hb; clear hb)
                | fail)
              go_ret
              exact ⟨rfl, hbr⟩
            · cases o5
              · cases o6
                · go_wp2_with (first
                    | ((with_reducible refine wp_load_box rfl _ rfl ?_); refine ⟨_, _, rfl, hp, ?_⟩)
                    | ((with_reducible refine wp_load_box_g rfl _ rfl ?_); refine ⟨_, _, rfl, hp, ?_⟩)
                    | (go_at_call 20; refine (on_eq' (T.chC b 64) _ 1 _ _ hbd (HT.out _ hbr) (by assumption)).mono ?_; rintro e u ⟨rfl, hb⟩; replace hp := hp.below hb; replace hbr := below_next hbr hb; clear hb; obtain ⟨q1, q2, q3, q5, q6⟩ := HC.out _ hp)
                    | (go_at_call 21; refine (both14_eq (T.chC b 64) false true _ true _ (T.ch_ok b) (HT.out _ hbr) rfl (T.clist_len _) (HB.out _ _ (by rw [HA.out]; rfl) (by rw [HH.out]; rfl))).mono ?_; rintro e u ⟨rfl, hb⟩; replace hp := hp.below hb; replace hbr := below_next hbr hb; clear hb; obtain ⟨q1, q2, q3, q5, q6⟩ := HC.out _ hp)
                    | (go_at_call 16; refine (awake14_any _ (HT.out _ hbr)).mono ?_; rintro e u ⟨rfl, hb⟩; replace hbr := below_next hbr hb; clear hb)
                    | fail)
                  go_ret
                  exact ⟨rfl, hbr⟩
                · go_wp2_with (first
                    | ((with_reducible refine wp_load_box rfl _ rfl ?_); refine ⟨_, _, rfl, hp, ?_⟩)
                    | ((with_reducible refine wp_load_box_g rfl _ rfl ?_); refine ⟨_, _, rfl, hp, ?_⟩)
                    | (go_at_call 20; refine (on_eq' (T.chC b 64) _ 1 _ _ hbd (HT.out _ hbr) (by assumption)).mono ?_; rintro e u ⟨rfl, hb⟩; replace hp := hp.below hb; replace hbr := below_next hbr hb; clear hb; obtain ⟨q1, q2, q3, q5, q6⟩ := HC.out _ hp)
                    | (go_at_call 21; refine (both14_eq (T.chC b 64) false false _ true _ (T.ch_ok b) (HT.out _ hbr) rfl (T.clist_len _) (HB.out _ _ (by rw [HA.out]; rfl) (by rw [HH.out]; rfl))).mono ?_; rintro e u ⟨rfl, hb⟩; replace hp := hp.below hb; replace hbr := below_next hbr hb; clear hb; obtain ⟨q1, q2, q3, q5, q6⟩ := HC.out _ hp)
                    | (go_at_call 16; refine (awake14_any _ (HT.out _ hbr)).mono ?_; rintro e u ⟨rfl, hb⟩; replace hbr := below_next hbr hb; clear hb)
                    | fail)
                  go_ret
                  exact ⟨rfl, hbr⟩
              · go_wp2_with (first
                  | ((with_reducible refine wp_load_box rfl _ rfl ?_); refine ⟨_, _, rfl, hp, ?_⟩)
                  | ((with_reducible refine wp_load_box_g rfl _ rfl ?_); refine ⟨_, _, rfl, hp, ?_⟩)
                  | (go_at_call 20; refine (on_eq' (T.chC b 64) _ 1 _ _ hbd (HT.out _ hbr) (by assumption)).mono ?_; rintro e u ⟨rfl, hb⟩; replace hp := hp.below hb; replace hbr := below_next hbr hb; clear hb; obtain ⟨q1, q2, q3, q5, q6⟩ := HC.out _ hp)
                  | (go_at_call 21; refine (both14_eq (T.chC b 64) false false _ true _ (T.ch_ok b) (HT.out _ hbr) rfl (T.clist_len _) (HB.out _ _ (by rw [HA.out]; rfl) (by rw [HH.out]; rfl))).mono ?_; rintro e u ⟨rfl, hb⟩; replace hp := hp.below hb; replace hbr := below_next hbr hb; clear hb; obtain ⟨q1, q2, q3, q5, q6⟩ := HC.out _ hp)
                  | (go_at_call 16; refine (awake14_any _ (HT.out _ hbr)).mono ?_; rintro e u ⟨rfl, hb⟩; replace hbr := below_next hbr hb; clear hb)
                  | fail)
                go_ret
                exact ⟨rfl, hbr⟩
        · cases t2
          · cases t5
            · go_wp2_with (first
                | ((with_reducible refine wp_load_box rfl _ rfl ?_); refine ⟨_, _, rfl, hp, ?_⟩)
                | ((with_reducible refine wp_load_box_g rfl _ rfl ?_); refine ⟨_, _, rfl, hp, ?_⟩)
                | (go_at_call 20; refine (on_eq' (T.chC b 64) _ 1 _ _ hbd (HT.out _ hbr) (by assumption)).mono ?_; rintro e u ⟨rfl, hb⟩; replace hp := hp.below hb; replace hbr := below_next hbr hb; clear hb; obtain ⟨q1, q2, q3, q5, q6⟩ := HC.out _ hp)
                | (go_at_call 21; refine (both14_eq (T.chC b 64) false false _ true _ (T.ch_ok b) (HT.out _ hbr) rfl (T.clist_len _) (HB.out _ _ (by rw [HA.out]; rfl) (by rw [HH.out]; rfl))).mono ?_; rintro e u ⟨rfl, hb⟩; replace hp := hp.below hb; replace hbr := below_next hbr hb; clear hb; obtain ⟨q1, q2, q3, q5, q6⟩ := HC.out _ hp)
                | (go_at_call 16; refine (awake14_any _ (HT.out _ hbr)).mono ?_; rintro e u ⟨rfl, hb⟩; replace hbr := below_next hbr hb; clear hb)
                | fail)
              go_ret
              exact ⟨rfl, hbr⟩
            · cases t6
              · go_wp2_with (first
                  | ((with_reducible refine wp_load_box rfl _ rfl ?_); refine ⟨_, _, rfl, hp, ?_⟩)
                  | ((with_reducible refine wp_load_box_g rfl _ rfl ?_); refine ⟨_, _, rfl, hp, ?_⟩)
                  | (go_at_call 20; refine (on_eq' (T.chC b 64) _ 1 _ _ hbd (HT.out _ hbr) (by assumption)).mono ?_; rintro e u ⟨rfl, hb⟩; replace hp := hp.below hb; replace hbr := below_next hbr hb; clear hb; obtain ⟨q1, q2, q3, q5, q6⟩ := HC.out _ hp)
                  | (go_at_call 21; refine (both14_eq (T.chC b 64) false false _ true _ (T.ch_ok b) (HT.out _ hbr) rfl (T.clist_len _) (HB.out _ _ (by rw [HA.out]; rfl) (by rw [HH.out]; rfl))).mono ?_; rintro e u ⟨rfl, hb⟩; replace hp := hp.below hb; replace hbr := below_next hbr hb; clear hb; obtain ⟨q1, q2, q3, q5, q6⟩ := HC.out _ hp)
                  | (go_at_call 16; refine (awake14_any _ (HT.out _ hbr)).mono ?_; rintro e u ⟨rfl, hb⟩; replace hbr := below_next hbr hb; clear hb)
                  | fail)
                go_ret
                exact ⟨rfl, hbr⟩
              · cases o5
                · cases o6
                  · go_wp2_with (first
                      | ((with_reducible refine wp_load_box rfl _ rfl ?_); refine ⟨_, _, rfl, hp, ?_⟩)
                      | ((with_reducible refine wp_load_box_g rfl _ rfl ?_); refine ⟨_, _, rfl, hp, ?_⟩)
                      | (go_at_call 20; refine (on_eq' (T.chC b 64) _ 1 _ _ hbd (HT.out _ hbr) (by assumption)).mono ?_; rintro e u ⟨rfl, hb⟩; replace hp := hp.below hb; replace hbr := below_next hbr hb; clear hb; obtain ⟨q1, q2, q3, q5, q6⟩ := HC.out _ hp)
                      | (go_at_call 21; refine (both14_eq (T.chC b 64) false true _ true _ (T.ch_ok b) (HT.out _ hbr) rfl (T.clist_len _) (HB.out _ _ (by rw [HA.out]; rfl) (by rw [HH.out]; rfl))).mono ?_; rintro e u ⟨rfl, hb⟩; replace hp := hp.below hb; replace hbr := below_next hbr hb; clear hb; obtain ⟨q1, q2, q3, q5, q6⟩ := HC.out _ hp)
                      | (go_at_call 16; refine (awake14_any _ (HT.out _ hbr)).mono ?_; rintro e u ⟨rfl, hb⟩; replace hbr := below_next hbr hb; clear hb)
                      | fail)
                    go_ret
                    exact ⟨rfl, hbr⟩
                  · go_wp2_with (first
                      | ((with_reducible refine wp_load_box rfl _ rfl ?_); refine ⟨_, _, rfl, hp, ?_⟩)
                      | ((with_reducible refine wp_load_box_g rfl _ rfl ?_); refine ⟨_, _, rfl, hp, ?_⟩)
                      | (go_at_call 20; refine (on_eq' (T.chC b 64) _ 1 _ _ hbd (HT.out _ hbr) (by assumption)).mono ?_; rintro e u ⟨rfl, hb⟩; replace hp := hp.below hb; replace hbr := below_next hbr hb; clear hb; obtain ⟨q1, q2, q3, q5, q6⟩ := HC.out _ hp)
                      | (go_at_call 21; refine (both14_eq (T.chC b 64) false false _ true _ (T.ch_ok b) (HT.out _ hbr) rfl (T.clist_len _) (HB.out _ _ (by rw [HA.out]; rfl) (by rw [HH.out]; rfl))).mono ?_; rintro e u ⟨rfl, hb⟩; replace hp := hp.below hb; replace hbr := below_next hbr hb; clear hb; obtain ⟨q1, q2, q3, q5, q6⟩ := HC.out _ hp)
                      | (go_at_call 16; refine (awake14_any _ (HT.out _ hbr)).mono ?_; rintro e u ⟨rfl, hb⟩; replace hbr := below_next hbr hb; clear hb)
                      | fail)
                    go_ret
                    exact ⟨rfl, hbr⟩
                · go_wp2_with (first
                    | ((with_reducible refine wp_load_box rfl _ rfl ?_); refine ⟨_, _, rfl, hp, ?_⟩)
                    | ((with_reducible refine wp_load_box_g rfl _ rfl ?_); refine ⟨_, _, rfl, hp, ?_⟩)
                    | (go_at_call 20; refine (on_eq' (T.chC b 64) _ 1 _ _ hbd (HT.out _ hbr) (by assumption)).mono ?_; rintro e u ⟨rfl, hb⟩; replace hp := hp.below hb; replace hbr := below_next hbr hb; clear hb; obtain ⟨q1, q2, q3, q5, q6⟩ := HC.out _ hp)
                    | (go_at_call 21; refine (both14_eq (T.chC b 64) false false _ true _ (T.ch_ok b) (HT.out _ hbr) rfl (T.clist_len _) (HB.out _ _ (by rw [HA.out]; rfl) (by rw [HH.out]; rfl))).mono ?_; rintro e u ⟨rfl, hb⟩; replace hp := hp.below hb; replace hbr := below_next hbr hb; clear hb; obtain ⟨q1, q2, q3, q5, q6⟩ := HC.out _ hp)
                    | (go_at_call 16; refine (awake14_any _ (HT.out _ hbr)).mono ?_; rintro e u ⟨rfl, hb⟩; replace hbr := below_next hbr hb; clear hb)
                    | fail)
                  go_ret
                  exact ⟨rfl, hbr⟩
          · cases t3
            · cases t5
              · go_wp2_with (first
                  | ((with_reducible refine wp_load_box rfl _ rfl ?_); refine ⟨_, _, rfl, hp, ?_⟩)
                  | ((with_reducible refine wp_load_box_g rfl _ rfl ?_); refine ⟨_, _, rfl, hp, ?_⟩)
                  | (go_at_call 20; refine (on_eq' (T.chC b 64) _ 1 _ _ hbd (HT.out _ hbr) (by assumption)).mono ?_; rintro e u ⟨rfl, hb⟩; replace hp := hp.below hb; replace hbr := below_next hbr hb; clear hb; obtain ⟨q1, q2, q3, q5, q6⟩ := HC.out _ hp)
                  | (go_at_call 21; refine (both14_eq (T.chC b 64) false false _ true _ (T.ch_ok b) (HT.out _ hbr) rfl (T.clist_len _) (HB.out _ _ (by rw [HA.out]; rfl) (by rw [HH.out]; rfl))).mono ?_; rintro e u ⟨rfl, hb⟩; replace hp := hp.below hb; replace hbr := below_next hbr hb; clear hb; obtain ⟨q1, q2, q3, q5, q6⟩ := HC.out _ hp)
                  | (go_at_call 16; refine (awake14_any _ (HT.out _ hbr)).mono ?_; rintro e u ⟨rfl, hb⟩; replace hbr := below_next hbr hb; clear hb)
                  | fail)
                go_ret
                exact ⟨rfl, hbr⟩
              · cases t6
                · go_wp2_with (first
                    | ((with_reducible refine wp_load_box rfl _ rfl ?_); refine ⟨_, _, rfl, hp, ?_⟩)
                    | ((with_reducible refine wp_load_box_g rfl _ rfl ?_); refine ⟨_, _, rfl, hp, ?_⟩)
                    | (go_at_call 20; refine (on_eq' (T.chC b 64) _ 1 _ _ hbd (HT.out _ hbr) (by assumption)).mono ?_; rintro e u ⟨rfl, hb⟩; replace hp := hp.below hb; replace hbr := below_next hbr hb; clear hb; obtain ⟨q1, q2, q3, q5, q6⟩ := HC.out _ hp)
                    | (go_at_call 21; refine (both14_eq (T.chC b 64) false false _ true _ (T.ch_ok b) (HT.out _ hbr) rfl (T.clist_len _) (HB.out _ _ (by rw [HA.out]; rfl) (by rw [HH.out]; rfl))).mono ?_; rintro e u ⟨rfl, hb⟩; replace hp := hp.below hb; replace hbr := below_next hbr hb; clear hb; obtain ⟨q1, q2, q3, q5, q6⟩ := HC.out _ hp)
                    | (go_at_call 16; refine (awake14_any _ (HT.out _ hbr)).mono ?_; rintro e u ⟨rfl, hb⟩; replace hbr := below_next hbr hb; clear hb)
                    | fail)
                  go_ret
                  exact ⟨rfl, hbr⟩
                · cases o5
                  · cases o6
                    · go_wp2_with (first
                        | ((with_reducible refine wp_load_box rfl _ rfl ?_); refine ⟨_, _, rfl, hp, ?_⟩)
                        | ((with_reducible refine wp_load_box_g rfl _ rfl ?_); refine ⟨_, _, rfl, hp, ?_⟩)
                        | (go_at_call 20; refine (on_eq' (T.chC b 64) _ 1 _ _ hbd (HT.out _ hbr) (by assumption)).mono ?_; rintro e u ⟨rfl, hb⟩; replace hp := hp.below hb; replace hbr := below_next hbr hb; clear hb; obtain ⟨q1, q2, q3, q5, q6⟩ := HC.out _ hp)
                        | (go_at_call 21; refine (both14_eq (T.chC b 64) false true _ true _ (T.ch_ok b) (HT.out _ hbr) rfl (T.clist_len _) (HB.out _ _ (by rw [HA.out]; rfl) (by rw [HH.out]; rfl))).mono ?_; rintro e u ⟨rfl, hb⟩; replace hp := hp.below hb; replace hbr := below_next hbr hb; clear hb; obtain ⟨q1, q2, q3, q5, q6⟩ := HC.out _ hp)
                        | (go_at_call 16; refine (awake14_any _ (HT.out _ hbr)).mono ?_; rintro e u ⟨rfl, hb⟩; replace hbr := below_next hbr hb; clear hb)
                        | fail)
                      go_ret
                      exact ⟨rfl, hbr⟩
                    · go_wp2_with (first
                        | ((with_reducible refine wp_load_box rfl _ rfl ?_); refine ⟨_, _, rfl, hp, ?_⟩)
                        | ((with_reducible refine wp_load_box_g rfl _ rfl ?_); refine ⟨_, _, rfl, hp, ?_⟩)
                        | (go_at_call 20; refine (on_eq' (T.chC b 64) _ 1 _ _ hbd (HT.out _ hbr) (by assumption)).mono ?_; rintro e u ⟨rfl, hb⟩; replace hp := hp.below hb; replace hbr := below_next hbr hb; clear hb; obtain ⟨q1, q2, q3, q5, q6⟩ := HC.out _ hp)
                        | (go_at_call 21; refine (both14_eq (T.chC b 64) false false _ true _ (T.ch_ok b) (HT.out _ hbr) rfl (T.clist_len _) (HB.out _ _ (by rw [HA.out]; rfl) (by rw [HH.out]; rfl))).mono ?_; rintro e u ⟨rfl, hb⟩; replace hp := hp.below hb; replace hbr := below_next hbr hb; clear hb; obtain ⟨q1, q2, q3, q5, q6⟩ := HC.out _ hp)
                        | (go_at_call 16; refine (awake14_any _ (HT.out _ hbr)).mono ?_; rintro e u ⟨rfl, hb⟩; replace hbr := below_next hbr hb; clear hb)
                        | fail)
                      go_ret
                      exact ⟨rfl, hbr⟩
                  · go_wp2_with (first
                      | ((with_reducible refine wp_load_box rfl _ rfl ?_); refine ⟨_, _, rfl, hp, ?_⟩)
                      | ((with_reducible refine wp_load_box_g rfl _ rfl ?_); refine ⟨_, _, rfl, hp, ?_⟩)
                      | (go_at_call 20; refine (on_eq' (T.chC b 64) _ 1 _ _ hbd (HT.out _ hbr) (by assumption)).mono ?_; rintro e u ⟨rfl, hb⟩; replace hp := hp.below hb; replace hbr := below_next hbr hb; clear hb; obtain ⟨q1, q2, q3, q5, q6⟩ := HC.out _ hp)
                      | (go_at_call 21; refine (both14_eq (T.chC b 64) false false _ true _ (T.ch_ok b) (HT.out _ hbr) rfl (T.clist_len _) (HB.out _ _ (by rw [HA.out]; rfl) (by rw [HH.out]; rfl))).mono ?_; rintro e u ⟨rfl, hb⟩; replace hp := hp.below hb; replace hbr := below_next hbr hb; clear hb; obtain ⟨q1, q2, q3, q5, q6⟩ := HC.out _ hp)
                      | (go_at_call 16; refine (awake14_any _ (HT.out _ hbr)).mono ?_; rintro e u ⟨rfl, hb⟩; replace hbr := below_next hbr hb; clear hb)
                      | fail)
                    go_ret
                    exact ⟨rfl, hbr⟩
            · cases o2
              · cases o3
                · cases t5
                  · go_wp2_with (first
                      | ((with_reducible refine wp_load_box rfl _ rfl ?_); refine ⟨_, _, rfl, hp, ?_⟩)
                      | ((with_reducible refine wp_load_box_g rfl _ rfl ?_); refine ⟨_, _, rfl, hp, ?_⟩)
                      | (go_at_call 20; refine (on_eq' (T.chC b 64) _ 1 _ _ hbd (HT.out _ hbr) (by assumption)).mono ?_; rintro e u ⟨rfl, hb⟩; replace hp := hp.below hb; replace hbr := below_next hbr hb; clear hb; obtain ⟨q1, q2, q3, q5, q6⟩ := HC.out _ hp)
                      | (go_at_call 21; refine (both14_eq (T.chC b 64) true false _ true _ (T.ch_ok b) (HT.out _ hbr) rfl (T.clist_len _) (HB.out _ _ (by rw [HA.out]; rfl) (by rw [HH.out]; rfl))).mono ?_; rintro e u ⟨rfl, hb⟩; replace hp := hp.below hb; replace hbr := below_next hbr hb; clear hb; obtain ⟨q1, q2, q3, q5, q6⟩ := HC.out _ hp)
                      | (go_at_call 16; refine (awake14_any _ (HT.out _ hbr)).mono ?_; rintro e u ⟨rfl, hb⟩; replace hbr := below_next hbr hb; clear hb)
                      | fail)
                    go_ret
                    exact ⟨rfl, hbr⟩
                  · cases t6
                    · go_wp2_with (first
                        | ((with_reducible refine wp_load_box rfl _ rfl ?_); refine ⟨_, _, rfl, hp, ?_⟩)
                        | ((with_reducible refine wp_load_box_g rfl _ rfl ?_); refine ⟨_, _, rfl, hp, ?_⟩)
                        | (go_at_call 20; refine (on_eq' (T.chC b 64) _ 1 _ _ hbd (HT.out _ hbr) (by assumption)).mono ?_; rintro e u ⟨rfl, hb⟩; replace hp := hp.below hb; replace hbr := below_next hbr hb; clear hb; obtain ⟨q1, q2, q3, q5, q6⟩ := HC.out _ hp)
                        | (go_at_call 21; refine (both14_eq (T.chC b 64) true false _ true _ (T.ch_ok b) (HT.out _ hbr) rfl (T.clist_len _) (HB.out _ _ (by rw [HA.out]; rfl) (by rw [HH.out]; rfl))).mono ?_; rintro e u ⟨rfl, hb⟩; replace hp := hp.below hb; replace hbr := below_next hbr hb; clear hb; obtain ⟨q1, q2, q3, q5, q6⟩ := HC.out _ hp)
                        | (go_at_call 16; refine (awake14_any _ (HT.out _ hbr)).mono ?_; rintro e u ⟨rfl, hb⟩; replace hbr := below_next hbr hb; clear hb)
                        | fail)
                      go_ret
                      exact ⟨rfl, hbr⟩
                    · cases o5
                      · cases o6
                        · go_wp2_with (first
                            | ((with_reducible refine wp_load_box rfl _ rfl ?_); refine ⟨_, _, rfl, hp, ?_⟩)
                            | ((with_reducible refine wp_load_box_g rfl _ rfl ?_); refine ⟨_, _, rfl, hp, ?_⟩)
                            | (go_at_call 20; refine (on_eq' (T.chC b 64) _ 1 _ _ hbd (HT.out _ hbr) (by assumption)).mono ?_; rintro e u ⟨rfl, hb⟩; replace hp := hp.below hb; replace hbr := below_next hbr hb; clear hb; obtain ⟨q1, q2, q3, q5, q6⟩ := HC.out _ hp)
                            | (go_at_call 21; refine (both14_eq (T.chC b 64) true true _ true _ (T.ch_ok b) (HT.out _ hbr) rfl (T.clist_len _) (HB.out _ _ (by rw [HA.out]; rfl) (by rw [HH.out]; rfl))).mono ?_; rintro e u ⟨rfl, hb⟩; replace hp := hp.below hb; replace hbr := below_next hbr hb; clear hb; obtain ⟨q1, q2, q3, q5, q6⟩ := HC.out _ hp)
                            | (go_at_call 16; refine (awake14_any _ (HT.out _ hbr)).mono ?_; rintro e u ⟨rfl, hb⟩; replace hbr := below_next hbr hb; clear hb)
                            | fail)
                          go_ret
                          exact ⟨rfl, hbr⟩
                        · go_wp2_with (first
                            | ((with_reducible refine wp_load_box rfl _ rfl ?_); refine ⟨_, _, rfl, hp, ?_⟩)
                            | ((with_reducible refine wp_load_box_g rfl _ rfl ?_); refine ⟨_, _, rfl, hp, ?_⟩)
                            | (go_at_call 20; refine (on_eq' (T.chC b 64) _ 1 _ _ hbd (HT.out _ hbr) (by assumption)).mono ?_; rintro e u ⟨rfl, hb⟩; replace hp := hp.below hb; replace hbr := below_next hbr hb; clear hb; obtain ⟨q1, q2, q3, q5, q6⟩ := HC.out _ hp)
                            | (go_at_call 21; refine (both14_eq (T.chC b 64) true false _ true _ (T.ch_ok b) (HT.out _ hbr) rfl (T.clist_len _) (HB.out _ _ (by rw [HA.out]; rfl) (by rw [HH.out]; rfl))).mono ?_; rintro e u ⟨rfl, hb⟩; replace hp := hp.below hb; replace hbr := below_next hbr hb; clear hb; obtain ⟨q1, q2, q3, q5, q6⟩ := HC.out _ hp)
                            | (go_at_call 16; refine (awake14_any _ (HT.out _ hbr)).mono ?_; rintro e u ⟨rfl, hb⟩; replace hbr := below_next hbr hb; clear hb)
                            | fail)
                          go_ret
                          exact ⟨rfl, hbr⟩
                      · go_wp2_with (first
                          | ((with_reducible refine wp_load_box rfl _ rfl ?_); refine ⟨_, _, rfl, hp, ?_⟩)
                          | ((with_reducible refine wp_load_box_g rfl _ rfl ?_); refine ⟨_, _, rfl, hp, ?_⟩)
                          | (go_at_call 20; refine (on_eq' (T.chC b 64) _ 1 _ _ hbd (HT.out _ hbr) (by assumption)).mono ?_; rintro e u ⟨rfl, hb⟩; replace hp := hp.below hb; replace hbr := below_next hbr hb; clear hb; obtain ⟨q1, q2, q3, q5, q6⟩ := HC.out _ hp)
                          | (go_at_call 21; refine (both14_eq (T.chC b 64) true false _ true _ (T.ch_ok b) (HT.out _ hbr) rfl (T.clist_len _) (HB.out _ _ (by rw [HA.out]; rfl) (by rw [HH.out]; rfl))).mono ?_; rintro e u ⟨rfl, hb⟩; replace hp := hp.below hb; replace hbr := below_next hbr hb; clear hb; obtain ⟨q1, q2, q3, q5, q6⟩ := HC.out _ hp)
                          | (go_at_call 16; refine (awake14_any _ (HT.out _ hbr)).mono ?_; rintro e u ⟨rfl, hb⟩; replace hbr := below_next hbr hb; clear hb)
                          | fail)
                        go_ret
                        exact ⟨rfl, hbr⟩
                · cases t5
                  · go_wp2_with (first
                      | ((with_reducible refine wp_load_box rfl _ rfl ?_); refine ⟨_, _, rfl, hp, ?_⟩)
                      | ((with_reducible refine wp_load_box_g rfl _ rfl ?_); refine ⟨_, _, rfl, hp, ?_⟩)
                      | (go_at_call 20; refine (on_eq' (T.chC b 64) _ 1 _ _ hbd (HT.out _ hbr) (by assumption)).mono ?_; rintro e u ⟨rfl, hb⟩; replace hp := hp.below hb; replace hbr := below_next hbr hb; clear hb; obtain ⟨q1, q2, q3, q5, q6⟩ := HC.out _ hp)
                      | (go_at_call 21; refine (both14_eq (T.chC b 64) false false _ true _ (T.ch_ok b) (HT.out _ hbr) rfl (T.clist_len _) (HB.out _ _ (by rw [HA.out]; rfl) (by rw [HH.out]; rfl))).mono ?_; rintro e u ⟨rfl, hb⟩; replace hp := hp.below hb; replace hbr := below_next hbr hb; clear hb; obtain ⟨q1, q2, q3, q5, q6⟩ := HC.out _ hp)
                      | (go_at_call 16; refine (awake14_any _ (HT.out _ hbr)).mono ?_; rintro e u ⟨rfl, hb⟩; replace hbr := below_next hbr hb; clear hb)
                      | fail)
                    go_ret
                    exact ⟨rfl, hbr⟩
                  · cases t6
                    · go_wp2_with (first
                        | ((with_reducible refine wp_load_box rfl _ rfl ?_); refine ⟨_, _, rfl, hp, ?_⟩)
                        | ((with_reducible refine wp_load_box_g rfl _ rfl ?_); refine ⟨_, _, rfl, hp, ?_⟩)
                        | (go_at_call 20; refine (on_eq' (T.chC b 64) _ 1 _ _ hbd (HT.out _ hbr) (by assumption)).mono ?_; rintro e u ⟨rfl, hb⟩; replace hp := hp.below hb; replace hbr := below_next hbr hb; clear hb; obtain ⟨q1, q2, q3, q5, q6⟩ := HC.out _ hp)
                        | (go_at_call 21; refine (both14_eq (T.chC b 64) false false _ true _ (T.ch_ok b) (HT.out _ hbr) rfl (T.clist_len _) (HB.out _ _ (by rw [HA.out]; rfl) (by rw [HH.out]; rfl))).mono ?_; rintro e u ⟨rfl, hb⟩; replace hp := hp.below hb; replace hbr := below_next hbr hb; clear hb; obtain ⟨q1, q2, q3, q5, q6⟩ := HC.out _ hp)
                        | (go_at_call 16; refine (awake14_any _ (HT.out _ hbr)).mono ?_; rintro e u ⟨rfl, hb⟩; replace hbr := below_next hbr hb; clear hb)
                        | fail)
                      go_ret
                      exact ⟨rfl, hbr⟩
                    · cases o5
                      · cases o6
                        · go_wp2_with (first
                            | ((with_reducible refine wp_load_box rfl _ rfl ?_); refine ⟨_, _, rfl, hp, ?_⟩)
                            | ((with_reducible refine wp_load_box_g rfl _ rfl ?_); refine ⟨_, _, rfl, hp, ?_⟩)
                            | (go_at_call 20; refine (on_eq' (T.chC b 64) _ 1 _ _ hbd (HT.out _ hbr) (by assumption)).mono ?_; rintro e u ⟨rfl, hb⟩; replace hp := hp.below hb; replace hbr := below_next hbr hb; clear hb; obtain ⟨q1, q2, q3, q5, q6⟩ := HC.out _ hp)
                            | (go_at_call 21; refine (both14_eq (T.chC b 64) false true _ true _ (T.ch_ok b) (HT.out _ hbr) rfl (T.clist_len _) (HB.out _ _ (by rw [HA.out]; rfl) (by rw [HH.out]; rfl))).mono ?_; rintro e u ⟨rfl, hb⟩; replace hp := hp.below hb; replace hbr := below_next hbr hb; clear hb; obtain ⟨q1, q2, q3, q5, q6⟩ := HC.out _ hp)
                            | (go_at_call 16; refine (awake14_any _ (HT.out _ hbr)).mono ?_; rintro e u ⟨rfl, hb⟩; replace hbr := below_next hbr hb; clear hb)
                            | fail)
                          go_ret
                          exact ⟨rfl, hbr⟩
                        · go_wp2_with (first
                            | ((with_reducible refine wp_load_box rfl _ rfl ?_); refine ⟨_, _, rfl, hp, ?_⟩)
                            | ((with_reducible refine wp_load_box_g rfl _ rfl ?_); refine ⟨_, _, rfl, hp, ?_⟩)
                            | (go_at_call 20; refine (on_eq' (T.chC b 64) _ 1 _ _ hbd (HT.out _ hbr) (by assumption)).mono ?_; rintro e u ⟨rfl, hb⟩; replace hp := hp.below hb; replace hbr := below_next hbr hb; clear hb; obtain ⟨q1, q2, q3, q5, q6⟩ := HC.out _ hp)
                            | (go_at_call 21; refine (both14_eq (T.chC b 64) false false _ true _ (T.ch_ok b) (HT.out _ hbr) rfl (T.clist_len _) (HB.out _ _ (by rw [HA.out]; rfl) (by rw [HH.out]; rfl))).mono ?_; rintro e u ⟨rfl, hb⟩; replace hp := hp.below hb; replace hbr := below_next hbr hb; clear hb; obtain ⟨q1, q2, q3, q5, q6⟩ := HC.out _ hp)
                            | (go_at_call 16; refine (awake14_any _ (HT.out _ hbr)).mono ?_; rintro e u ⟨rfl, hb⟩; replace hbr := below_next hbr hb; clear hb)
                            | fail)
                          go_ret
                          exact ⟨rfl, hbr⟩
                      · go_wp2_with (first
                          | ((with_reducible refine wp_load_box rfl _ rfl ?_); refine ⟨_, _, rfl, hp, ?_⟩)
                          | ((with_reducible refine wp_load_box_g rfl _ rfl ?_); refine ⟨_, _, rfl, hp, ?_⟩)
                          | (go_at_call 20; refine (on_eq' (T.chC b 64) _ 1 _ _ hbd (HT.out _ hbr) (by assumption)).mono ?_; rintro e u ⟨rfl, hb⟩; replace hp := hp.below hb; replace hbr := below_next hbr hb; clear hb; obtain ⟨q1, q2, q3, q5, q6⟩ := HC.out _ hp)
                          | (go_at_call 21; refine (both14_eq (T.chC b 64) false false _ true _ (T.ch_ok b) (HT.out _ hbr) rfl (T.clist_len _) (HB.out _ _ (by rw [HA.out]; rfl) (by rw [HH.out]; rfl))).mono ?_; rintro e u ⟨rfl, hb⟩; replace hp := hp.below hb; replace hbr := below_next hbr hb; clear hb; obtain ⟨q1, q2, q3, q5, q6⟩ := HC.out _ hp)
                          | (go_at_call 16; refine (awake14_any _ (HT.out _ hbr)).mono ?_; rintro e u ⟨rfl, hb⟩; replace hbr := below_next hbr hb; clear hb)
                          | fail)
                        go_ret
                        exact ⟨rfl, hbr⟩
              · cases t5
                · go_wp2_with (first
                    | ((with_reducible refine wp_load_box rfl _ rfl ?_); refine ⟨_, _, rfl, hp, ?_⟩)
                    | ((with_reducible refine wp_load_box_g rfl _ rfl ?_); refine ⟨_, _, rfl, hp, ?_⟩)
                    | (go_at_call 20; refine (on_eq' (T.chC b 64) _ 1 _ _ hbd (HT.out _ hbr) (by assumption)).mono ?_; rintro e u ⟨rfl, hb⟩; replace hp := hp.below hb; replace hbr := below_next hbr hb; clear hb; obtain ⟨q1, q2, q3, q5, q6⟩ := HC.out _ hp)
                    | (go_at_call 21; refine (both14_eq (T.chC b 64) false false _ true _ (T.ch_ok b) (HT.out _ hbr) rfl (T.clist_len _) (HB.out _ _ (by rw [HA.out]; rfl) (by rw [HH.out]; rfl))).mono ?_; rintro e u ⟨rfl, hb⟩; replace hp := hp.below hb; replace hbr := below_next hbr hb; clear hb; obtain ⟨q1, q2, q3, q5, q6⟩ := HC.out _ hp)
                    | (go_at_call 16; refine (awake14_any _ (HT.out _ hbr)).mono ?_; rintro e u ⟨rfl, hb⟩; replace hbr := below_next hbr hb; clear hb)
                    | fail)
                  go_ret
                  exact ⟨rfl, hbr⟩
                · cases t6
                  · go_wp2_with (first
                      | ((with_reducible refine wp_load_box rfl _ rfl ?_); refine ⟨_, _, rfl, hp, ?_⟩)
                      | ((with_reducible refine wp_load_box_g rfl _ rfl ?_); refine ⟨_, _, rfl, hp, ?_⟩)
                      | (go_at_call 20; refine (on_eq' (T.chC b 64) _ 1 _ _ hbd (HT.out _ hbr) (by assumption)).mono ?_; rintro e u ⟨rfl, hb⟩; replace hp := hp.below hb; replace hbr := below_next hbr hb; clear hb; obtain ⟨q1, q2, q3, q5, q6⟩ := HC.out _ hp)
                      | (go_at_call 21; refine (both14_eq (T.chC b 64) false false _ true _ (T.ch_ok b) (HT.out _ hbr) rfl (T.clist_len _) (HB.out _ _ (by rw [HA.out]; rfl) (by rw [HH.out]; rfl))).mono ?_; rintro e u ⟨rfl, hb⟩; replace hp := hp.below hb; replace hbr := below_next hbr hb; clear hb; obtain ⟨q1, q2, q3, q5, q6⟩ := HC.out _ hp)
                      | (go_at_call 16; refine (awake14_any _ (HT.out _ hbr)).mono ?_; rintro e u ⟨rfl, hb⟩; replace hbr := below_next hbr hb; clear hb)
                      | fail)
                    go_ret
                    exact ⟨rfl, hbr⟩
                  · cases o5
                    · cases o6
                      · go_wp2_with (first
                          | ((with_reducible refine wp_load_box rfl _ rfl ?_); refine ⟨_, _, rfl, hp, ?_⟩)
                          | ((with_reducible refine wp_load_box_g rfl _ rfl ?_); refine ⟨_, _, rfl, hp, ?_⟩)
                          | (go_at_call 20; refine (on_eq' (T.chC b 64) _ 1 _ _ hbd (HT.out _ hbr) (by assumption)).mono ?_; rintro e u ⟨rfl, hb⟩; replace hp := hp.below hb; replace hbr := below_next hbr hb; clear hb; obtain ⟨q1, q2, q3, q5, q6⟩ := HC.out _ hp)
                          | (go_at_call 21; refine (both14_eq (T.chC b 64) false true _ true _ (T.ch_ok b) (HT.out _ hbr) rfl (T.clist_len _) (HB.out _ _ (by rw [HA.out]; rfl) (by rw [HH.out]; rfl))).mono ?_; rintro e u ⟨rfl, hb⟩; replace hp := hp.below hb; replace hbr := below_next hbr hb; clear hb; obtain ⟨q1, q2, q3, q5, q6⟩ := HC.out _ hp)
                          | (go_at_call 16; refine (awake14_any _ (HT.out _ hbr)).mono ?_; rintro e u ⟨rfl, hb⟩; replace hbr := below_next hbr hb; clear hb)
                          | fail)
                        go_ret
                        exact ⟨rfl, hbr⟩
                      · go_wp2_with (first
                          | ((with_reducible refine wp_load_box rfl _ rfl ?_); refine ⟨_, _, rfl, hp, ?_⟩)
                          | ((with_reducible refine wp_load_box_g rfl _ rfl ?_); refine ⟨_, _, rfl, hp, ?_⟩)
                          | (go_at_call 20; refine (on_eq' (T.chC b 64) _ 1 _ _ hbd (HT.out _ hbr) (by assumption)).mono ?_; rintro e u ⟨rfl, hb⟩; replace hp := hp.below hb; replace hbr := below_next hbr hb; clear hb; obtain ⟨q1, q2, q3, q5, q6⟩ := HC.out _ hp)
                          | (go_at_call 21; refine (both14_eq (T.chC b 64) false false _ true _ (T.ch_ok b) (HT.out _ hbr) rfl (T.clist_len _) (HB.out _ _ (by rw [HA.out]; rfl) (by rw [HH.out]; rfl))).mono ?_; rintro e u ⟨rfl, hb⟩; replace hp := hp.below hb; replace hbr := below_next hbr hb; clear hb; obtain ⟨q1, q2, q3, q5, q6⟩ := HC.out _ hp)
                          | (go_at_call 16; refine (awake14_any _ (HT.out _ hbr)).mono ?_; rintro e u ⟨rfl, hb⟩; replace hbr := below_next hbr hb; clear hb)
                          | fail)
                        go_ret
                        exact ⟨rfl, hbr⟩
                    · go_wp2_with (first
                        | ((with_reducible refine wp_load_box rfl _ rfl ?_); refine ⟨_, _, rfl, hp, ?_⟩)
                        | ((with_reducible refine wp_load_box_g rfl _ rfl ?_); refine ⟨_, _, rfl, hp, ?_⟩)
                        | (go_at_call 20; refine (on_eq' (T.chC b 64) _ 1 _ _ hbd (HT.out _ hbr) (by assumption)).mono ?_; rintro e u ⟨rfl, hb⟩; replace hp := hp.below hb; replace hbr := below_next hbr hb; clear hb; obtain ⟨q1, q2, q3, q5, q6⟩ := HC.out _ hp)
                        | (go_at_call 21; refine (both14_eq (T.chC b 64) false false _ true _ (T.ch_ok b) (HT.out _ hbr) rfl (T.clist_len _) (HB.out _ _ (by rw [HA.out]; rfl) (by rw [HH.out]; rfl))).mono ?_; rintro e u ⟨rfl, hb⟩; replace hp := hp.below hb; replace hbr := below_next hbr hb; clear hb; obtain ⟨q1, q2, q3, q5, q6⟩ := HC.out _ hp)
                        | (go_at_call 16; refine (awake14_any _ (HT.out _ hbr)).mono ?_; rintro e u ⟨rfl, hb⟩; replace hbr := below_next hbr hb; clear hb)
                        | fail)
                      go_ret
                      exact ⟨rfl, hbr⟩

end Go.Proofs.YtnkkhdcjbjiimaaDoor
