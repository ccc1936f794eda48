/- The law CastleRights. -/
import Derived.Test.YtnkkhdcjbjiimaaDoorCastR
import Derived.Test.YtnkkhdcjbjiimaaDoorLaw14c
import Derived.Test.YtnkkhdcjbjiimaaDoorLaw14a
import Derived.Test.YtnkkhdcjbjiimaaDoorTake
import Derived.Test.YtnkkhdcjbjiimaaDoorBox2
namespace Go.Proofs.YtnkkhdcjbjiimaaDoor
open Go.RowKit Go.Sort
attribute [local go_sem] Oper.semAt_some

/-- A row of castlings that is owned, or none. -/
theorem owns_row5 {w : World} {base : Nat} {e : TypeId} {v : Value} {n : Nat} {xs : List Value} (h : w.ownsRow base e 5 v n xs) :
    ∃ ao cap, v = .slice ao n cap ∧ n ≤ cap ∧ cap ≤ maxLen ∧ (0 < n → ∃ b, ao = some ⟨b, 0, none⟩ ∧ base ≤ b ∧ b < w.heap.size ∧ ∀ j u, xs[j]? = some u → w.cell? ⟨b, j, none⟩ = some u) := M.row_open h
theorem posOk_upd {c : Nat → Int} (hc : PosOk c) (i : Nat) (v : Int) (hv : (Lit.int (pk i) v).wf = true) : PosOk (upd c i v) := fun j hj => by
  unfold upd
  split
  · rename_i h; rw [h]; exact hv
  · exact hc j hj
theorem Tryd.size_i8 : (Tryd.prog.info? 26).map (·.size) = some 1 := by kernel_rfl
theorem Tryd.size_2i8 : (Tryd.prog.info? 27).map (·.size) = some 2 := by kernel_rfl

set_option maxRecDepth 100000 in
set_option maxHeartbeats 2000000 in
theorem castleRights_out (c : Nat → Int) (side : Bool) (w : World) (hc : PosOk c) (hT : Tb w) (ht : 1 < c 78) :
    Calls Tryd.prog 4 #[.agg (posC c), .bool side] w fun e w' => e = .returned (.bool true) ∧ Below w.heap.size w w' := by
  have hL : (T.clist c).map T.toMv = [] := by unfold T.clist; rw [if_neg (fun h => by have := h.1.2; omega)]; rfl
  have hb0 : Below w.heap.size w (w.alloc (.cells (posC c) 31)) := (Below.refl _ _).alloc (Nat.le_refl _) _
  have hp := PosAt.new w c
  have HT := Lib.hid (fun W (hb : Below w.heap.size w W) => tb_below hT hb)
  have HL := Lib.hid (fun W (hT : Tb W) => clist_row c [] W hc hT hL)
  clear hT hL hc
  have h78 := hp.cell (i := 78) (by decide)
  rw [show pk 78 = .u8 from rfl] at h78
  go_enter Tryd.func4, Tryd.ntmps4
  go_wp2_with (first
    | ((with_reducible refine wp_load_box rfl _ rfl ?_); refine ⟨_, _, rfl, hp, ?_⟩)
    | fail)
  refine (HL.out _ (HT.out _ hb0)).mono ?_
  rintro e u ⟨v, rfl, hown, hb⟩
  replace hb0 := below_next hb0 hb
  clear hb
  obtain ⟨ao, cap, rfl⟩ : ∃ ao cap, v = .slice ao 0 cap := by
    rcases hown.2 with ⟨e, _⟩ | ⟨g, cap, cur, e, _⟩
    · exact ⟨_, _, e⟩
    · exact ⟨_, _, e⟩
  clear hown
  go_wp2_with (first
    | (go_at_call 16; refine (awake14_any _ (HT.out _ hb0)).mono ?_; rintro e u1 ⟨rfl, hb⟩; replace hb0 := below_next hb0 hb; clear hb))
  go_ret
  exact ⟨rfl, hb0⟩

set_option maxRecDepth 100000 in
set_option maxHeartbeats 8000000 in
theorem castleRights_0f (c : Nat → Int) (w : World) (hc : PosOk c) (hT : Tb w) (hct : c 78 = 0) :
    Calls Tryd.prog 4 #[.agg (posC c), .bool false] w fun e w' => e = .returned (.bool true) ∧ Below w.heap.size w w' := by
  obtain ⟨L, hL⟩ : ∃ L, T.clist c = L := ⟨_, rfl⟩
  have hb0 : Below w.heap.size w (w.alloc (.cells (posC c) 31)) := (Below.refl _ _).alloc (Nat.le_refl _) _
  have hp := PosAt.new w c
  have HT := Lib.hid (fun W (hb : Below w.heap.size w W) => tb_below hT hb)
  have HL := Lib.hid (fun W (hT : Tb W) => clist_val c L W hc hT hL)
  have hlost : T.lost c 0 = upd c 79 (-1) := by unfold T.lost; rw [hct]; rfl
  have hall : T.lostAll c = upd (upd c 79 (-1)) (79 + 1) (-1) := by unfold T.lostAll; rw [hct]; rfl
  have hQl : T.clist (upd c 79 (-1)) = L.filter fun x => T.sd x != 0 := by rw [← hlost, T.clist_lost c 0 hc (by decide), hL]
  have hNl : T.clist (upd (upd c 79 (-1)) (79 + 1) (-1)) = [] := by rw [← hall, T.clist_lostAll]
  have hcq : PosOk (upd c 79 (-1)) := posOk_upd hc _ _ (by decide)
  have hcn : PosOk (upd (upd c 79 (-1)) (79 + 1) (-1)) := posOk_upd (posOk_upd hc _ _ (by decide)) _ _ (by decide)
  have HQ := Lib.hid (fun W (hT : Tb W) => clist_val _ _ W hcq hT hQl)
  have HN := Lib.hid (fun W (hT : Tb W) => clist_val _ _ W hcn hT hNl)
  have hmem : ∀ x ∈ L, ∃ t d, T.Is c t d x.1 x.2 := fun x hx => T.clist_mem c x hc (by rw [hL]; exact hx)
  have Hmem := Lib.hid hmem
  have hL2 : L.length ≤ 2 := by rw [← hL]; exact T.clist_len c
  clear hlost hall hQl hNl hcq hcn hmem hT hL
  have h78 := hp.cell (i := 78) (by decide)
  rw [hct, show pk 78 = .u8 from rfl] at h78
  have hu := Tryd.underlying31
  have hinfo : (Tryd.prog.info? 31).map (·.size) = some (posL c).length := by rw [Tryd.infoPos]; simp [posL]
  go_enter Tryd.func4, Tryd.ntmps4
  go_wp2
  generalize hW0 : w.alloc (.cells (posC c) 31) = W0 at hp hb0 ⊢
  have hSd : PosAt W0.drew w.heap.size c ∧ Below w.heap.size w W0.drew := ⟨⟨hp.heap⟩, M.below_drew hb0 1⟩
  clear h78
  refine wp_region_held (S := fun w' => PosAt w' w.heap.size c ∧ Below w.heap.size w w') (by kernel_rfl) ?_
  change wpAnyH _ _ _ _ _ _ _ _ W0.drew
  clear hW0 hp hb0
  generalize W0.drew = W1 at hSd ⊢
  refine takeD 0 (some 23) (.agg (posC c)) (by kernel_rfl) (by kernel_rfl) (by kernel_rfl) (by kernel_rfl) (by kernel_rfl) (fun _ _ _ h => h) (yieldsIf_load_mid (by kernel_rfl) 31 (.tmp 2) (by kernel_rfl) w.heap.size 0 (by kernel_rfl) (posL c) _ (fun _ h => pos_range h.1.heap) hu rfl hinfo) hSd ?_
  simp only [Act.put, List.setIfInBounds_toArray, List.set_cons_succ, List.set_cons_zero]
  refine takeD 1 (some 24) (.agg (posC c)) (by kernel_rfl) (by kernel_rfl) (by kernel_rfl) (by kernel_rfl) (by kernel_rfl) (fun _ _ _ h => h) (yieldsIf_load_mid (by kernel_rfl) 31 (.tmp 2) (by kernel_rfl) w.heap.size 0 (by kernel_rfl) (posL c) _ (fun _ h => pos_range h.1.heap) hu rfl hinfo) hSd ?_
  simp only [Act.put, List.setIfInBounds_toArray, List.set_cons_succ, List.set_cons_zero]
  have hlt := hSd.1.lt
  have hS1 : PosAt (W1.alloc (.cells Tryd.zeroCells31 31)) w.heap.size c ∧ Below w.heap.size w (W1.alloc (.cells Tryd.zeroCells31 31)) := ⟨hSd.1.alloc _, hSd.2.alloc hSd.2.size _⟩
  have hS2 : PosAt ((W1.alloc (.cells Tryd.zeroCells31 31)).alloc (.cells Tryd.zeroCells31 31)) w.heap.size c ∧ Below w.heap.size w ((W1.alloc (.cells Tryd.zeroCells31 31)).alloc (.cells Tryd.zeroCells31 31)) := ⟨hS1.1.alloc _, hS1.2.alloc hS1.2.size _⟩
  have hA : RowAt ((W1.alloc (.cells Tryd.zeroCells31 31)).alloc (.cells Tryd.zeroCells31 31)) W1.heap.size 31 Tryd.zeroCells31 := (RowAt.new W1 _ _).alloc _
  have hB : RowAt ((W1.alloc (.cells Tryd.zeroCells31 31)).alloc (.cells Tryd.zeroCells31 31)) (W1.heap.size + 1) 31 Tryd.zeroCells31 := by
    have := RowAt.new (W1.alloc (.cells Tryd.zeroCells31 31)) Tryd.zeroCells31 31
    rwa [World.size_alloc] at this
  have hz2 : ((W1.alloc (.cells Tryd.zeroCells31 31)).alloc (.cells Tryd.zeroCells31 31)).heap.size = W1.heap.size + 2 := by simp
  have hz2 : W1.heap.size + 1 < ((W1.alloc (.cells Tryd.zeroCells31 31)).alloc (.cells Tryd.zeroCells31 31)).heap.size := by omega
  have HS1 := Lib.hid hS1
  have HS2 := Lib.hid hS2
  clear hS1 hS2
  refine wpAnyH_all (rs := [2, 3]) (by kernel_rfl) (by simp) (fun i hi => ?_)
  obtain rfl | rfl : i = 2 ∨ i = 3 := by simpa using hi
  · clear hi
    refine wpOp_at rfl rfl ?_
    unfold Oper.wp
    go_simp
    refine ⟨HS1.out, ?_⟩
    refine wpAnyH_all (rs := [3]) (by kernel_rfl) (by simp) (fun i hi => ?_)
    obtain rfl : i = 3 := by simpa using hi
    clear hi
    refine wpOp_at rfl rfl ?_
    unfold Oper.wp
    go_simp
    refine ⟨HS2.out, ?_⟩
    have hS2 := HS2.out
    clear HS1 HS2
    obtain ⟨bq, hbq⟩ : ∃ bq, W1.heap.size = bq := ⟨_, rfl⟩
    obtain ⟨bn, hbn⟩ : ∃ bn, W1.heap.size + 1 = bn := ⟨_, rfl⟩
    have hne : bq ≠ bn := by omega
    have hbq1 : w.heap.size < bq := by omega
    have hbn1 : w.heap.size < bn := by omega
    have hQ : RowAt ((W1.alloc (.cells Tryd.zeroCells31 31)).alloc (.cells Tryd.zeroCells31 31)) bq 31 Tryd.zeroCells31 := by rw [← hbq]; exact hA
    have hN : RowAt ((W1.alloc (.cells Tryd.zeroCells31 31)).alloc (.cells Tryd.zeroCells31 31)) bn 31 Tryd.zeroCells31 := by rw [← hbn]; exact hB
    rw [hbn, hbq]
    clear hbq hbn hA hB hz2
    revert hS2 hQ hN
    generalize (W1.alloc (.cells Tryd.zeroCells31 31)).alloc (.cells Tryd.zeroCells31 31) = W2
    intro hS2 hQ hN
    refine takeOne 4 (by kernel_rfl) (by kernel_rfl) (by kernel_rfl) ?_
    refine wp_store_row 31 (.tmp 6) (.tmp 23) (by kernel_rfl) bq (posC c) (by kernel_rfl) (by kernel_rfl) _ _ hQ.heap (posC_info _) (by rw [zero31_sizeC, posC_size]) (posC_one _) ?_
    have hV := put_setRow W2 bq (posC c)
    have hq : PosAt (W2.setRow bq (posC c)) bq c := ⟨setRow_heap _ _ _ _ _ _ hQ.heap⟩
    have hS3 : PosAt (W2.setRow bq (posC c)) w.heap.size c ∧ Below w.heap.size w (W2.setRow bq (posC c)) := ⟨hV.pos hS2.1 (by omega), hV.below hS2.2 (by omega)⟩
    have hN3 := hV.row hN (Ne.symm hne)
    refine ⟨hS3, ?_⟩
    have hall := And.intro hS3 (And.intro hq hN3)
    clear hV hS2 hQ hN hS3 hq hN3
    revert hall
    generalize W2.setRow bq (posC c) = W3
    rintro ⟨hS3, hq, hN3⟩
    refine takeOne 5 (by kernel_rfl) (by kernel_rfl) (by kernel_rfl) ?_
    refine wp_store_row 31 (.tmp 7) (.tmp 24) (by kernel_rfl) bn (posC c) (by kernel_rfl) (by kernel_rfl) _ _ hN3.heap (posC_info _) (by rw [zero31_sizeC, posC_size]) (posC_one _) ?_
    have hV := put_setRow W3 bn (posC c)
    have hn : PosAt (W3.setRow bn (posC c)) bn c := ⟨setRow_heap _ _ _ _ _ _ hN3.heap⟩
    have hS4 : PosAt (W3.setRow bn (posC c)) w.heap.size c ∧ Below w.heap.size w (W3.setRow bn (posC c)) := ⟨hV.pos hS3.1 (by omega), hV.below hS3.2 (by omega)⟩
    replace hq := hV.pos hq hne
    refine ⟨hS4, ?_⟩
    have hall := And.intro hS4 (And.intro hq hn)
    clear hV hS3 hN3 hS4 hq hn
    revert hall
    generalize W3.setRow bn (posC c) = W4
    rintro ⟨⟨hp, hb0⟩, hq, hn⟩
    refine wpAnyH_done (by kernel_rfl) ?_ _
    have h78 := hp.cell (i := 78) (by decide)
    rw [hct, show pk 78 = .u8 from rfl] at h78
    have h78q := hq.cell (i := 78) (by decide)
    rw [hct, show pk 78 = .u8 from rfl] at h78q
    go_wp2_with (first
      | ((with_reducible refine wp_store_cell rfl _ _ _ rfl ?_); refine ⟨_, _, _, _, _, rfl, rfl, hq, (by decide), rfl, Tryd.size_i8, ?_⟩; intro V hV hq2; replace hp := hV.pos hp (by omega); replace hn := hV.pos hn (Ne.symm hne); replace hb0 := hV.below hb0 (by omega); clear hV hq; have hq := hq2; clear hq2; have h78 := hp.cell (i := 78) (by decide); rw [hct, show pk 78 = .u8 from rfl] at h78)
      | ((with_reducible refine wp_store_two rfl _ _ _ rfl ?_); refine ⟨_, _, _, _, _, _, rfl, rfl, hn, (by decide), rfl, rfl, Tryd.size_2i8, ?_⟩; intro V hV hn2; replace hp := hV.pos hp (by omega); replace hq := hV.pos hq hne; replace hb0 := hV.below hb0 (by omega); clear hV hn; have hn := hn2; clear hn2; have h78 := hp.cell (i := 78) (by decide); rw [hct, show pk 78 = .u8 from rfl] at h78)
      | ((with_reducible refine wp_load_box rfl _ rfl ?_); refine ⟨_, _, rfl, hp, ?_⟩)
      | fail)
    refine (HL.out _ (HT.out _ hb0)).mono ?_
    rintro e u1 ⟨v1, rfl, hown1, hb⟩
    replace hp := hp.below hb
    replace hq := hq.below hb
    replace hn := hn.below hb
    replace hb0 := below_next hb0 hb
    clear hb
    go_wp2_with (first
      | ((with_reducible refine wp_load_box rfl _ rfl ?_); refine ⟨_, _, rfl, hq, ?_⟩)
      | fail)
    refine (HQ.out _ (HT.out _ hb0)).mono ?_
    rintro e u2 ⟨v2, rfl, hown2, hb⟩
    replace hp := hp.below hb
    replace hn := hn.below hb
    replace hown1 := owns_below hown1 hb
    replace hb0 := below_next hb0 hb
    clear hb hq
    obtain ⟨a2, cap2, rfl, hc2, hm2, hB⟩ := owns_row5 hown2
    by_cases hl : 0 < L.length
    · obtain ⟨b1, cap, rfl, hbb, hbs, hnc, hcm, hcells⟩ := owns_openN hown1 hl
      have Hm1 := Lib.hid (fun W (hb : Below u2.heap.size u2 W) i x (hx : L[i]? = some x) => (T.movAt hcells i x hx).below hb)
      have HB := Lib.hid (fun (hb0 : 0 < (L.filter fun x => T.sd x != 0).length) => (hB hb0).imp fun b2 h => (show a2 = some ⟨b2, 0, none⟩ ∧ b2 < u2.heap.size ∧ ∀ W (_ : Below u2.heap.size u2 W) i x (_ : (L.filter fun x => T.sd x != 0)[i]? = some x), T.MovAt W b2 (i * 5) x from ⟨h.1, h.2.2.1, fun W hb i x hx => (T.movAt h.2.2.2 i x hx).below hb⟩))
      clear hown1 hown2 hcells hbb hB
      unfold maxLen at hcm hm2
      obtain ⟨q, hqq⟩ : ∃ q, L.length = q := ⟨_, rfl⟩
      obtain ⟨r, hr⟩ : ∃ r, (L.filter fun x => T.sd x != 0).length = r := ⟨_, rfl⟩
      have hrq : r ≤ q := by rw [← hr, ← hqq]; exact List.length_filter_le _ _
      have Hr := Lib.hid (And.intro hqq hr)
      rw [hqq] at hl hnc hL2 ⊢
      rw [hr] at hc2 HB ⊢
      clear hqq hr
      have H0 := Lib.hid (And.intro hp (And.intro hn hb0))
      clear hp hn hb0
      go_wp2
      go_loopw [10, 11] (fun x i wr => ∃ n : Nat, n ≤ q ∧ i = .int .i64 (n : Int) ∧ x = .int .i64 ((((L.take n).filter fun x => T.sd x != 0).length : Nat) : Int) ∧ PosAt wr w.heap.size c ∧ PosAt wr bn (upd (upd c 79 (-1)) (79 + 1) (-1)) ∧ Below u2.heap.size u2 wr ∧ Below w.heap.size w wr) (fun _ i _ => q - (intOf i).toNat)
      case atStart => exact ⟨0, by omega, rfl, rfl, H0.out.1, H0.out.2.1, Below.refl _ _, H0.out.2.2⟩
      case round =>
        obtain ⟨n, hn', rfl, rfl, hp, hn, hbu, hbr⟩ := hrel
        by_cases hlt : n < q
        · obtain ⟨⟨k, s⟩, hm⟩ : ∃ m, L[n]? = some m := ⟨_, List.getElem?_eq_getElem (by rw [Hr.out.1]; exact hlt)⟩
          obtain ⟨m0, m1, m2, m3, m4⟩ := (Hm1.out wr hbu n (k, s) hm).five
          simp only at m0 m1
          obtain ⟨t', d', his⟩ := Hmem.out (k, s) (List.mem_of_getElem? hm)
          simp only at his
          have hd2 := his.d2
          have hk64 := his.khome
          have hs64 := his.shome
          have ht2 := his.t2
          have hsd : T.sd (k, s) = d' := by
            unfold T.sd
            by_cases hlk : k < s
            · rw [if_pos hlk, his.dir.1 hlk]
            · rw [if_neg hlk]; have h5 : ¬ d' = 0 := fun e => hlk (his.dir.2 e); omega
          have hft := T.filter_take (fun x => T.sd x != 0) L n (k, s) hm
          have hfg := T.filter_get (fun x => T.sd x != 0) L n (k, s) hm
          have hfl : ((L.take n).filter fun x => T.sd x != 0).length ≤ n := Nat.le_trans (List.length_filter_le _ _) (by rw [List.length_take]; omega)
          rw [hsd] at hft hfg
          have HS := Lib.hid (fun W => cside_eq c (k : Int) (s : Int) 0 0 true (d' : Int) W hc (by omega) (by omega) (T.side_is his))
          have hb1 : b1 < wr.heap.size := by have := hbu.size; omega
          have hlp := hp.lt
          generalize ((L.take n).filter fun x => T.sd x != 0).length = y at hft hfg hfl ⊢
          have Hft := Lib.hid hft
          have Hfg := Lib.hid hfg
          have HMM := Lib.hid hm
          clear hft hfg his hsd hk64 hs64 ht2 hm
          rcases (show d' = 0 ∨ d' = 1 by omega) with rfl | rfl
          · go_wp2_with fail
            refine region_below (by kernel_rfl) (by kernel_rfl) ?_
            repeat (first
              | go_big_quiet_step (first
                | (go_at_call 17; exact quiet_below (HS.out _)))
              | (go_big_quiet_want; refine quiet_load_box _ rfl ⟨_, _, rfl, hp, ?_⟩; simp only [Act.put, List.setIfInBounds_toArray, List.set_cons_succ, List.set_cons_zero]; go_big_quiet_on))
            refine wpQuiet_nil ?_
            intro w3 hb3
            go_wp2
            exact ⟨⟨n + 1, by omega, by go_num, by rw [Hft.out]; rfl, hp.below hb3, hn.below hb3, below_next hbu hb3, below_next hbr hb3⟩, by simp [intOf]; omega⟩
          · have hgt := Hfg.out (by decide)
            have hy : y < r := by rw [← Hr.out.2]; exact (List.getElem?_eq_some_iff.1 hgt).1
            obtain ⟨b2, rfl, hb2, hat⟩ := HB.out (by omega)
            have Hat := Lib.hid (fun W hb => (hat W hb y (k, s) hgt).five)
            clear hat hgt
            go_wp2_with fail
            refine region_below (by kernel_rfl) (by kernel_rfl) ?_
            repeat (first
              | go_big_quiet_step (first
                | (go_at_call 17; exact quiet_below (HS.out _)))
              | (go_big_quiet_want; refine quiet_load_box _ rfl ⟨_, _, rfl, hp, ?_⟩; simp only [Act.put, List.setIfInBounds_toArray, List.set_cons_succ, List.set_cons_zero]; go_big_quiet_on))
            refine wpQuiet_nil ?_
            intro w3 hb3
            clear m0 m1 m2 m3 m4
            replace hbu := below_next hbu hb3
            replace hbr := below_next hbr hb3
            replace hp := hp.below hb3
            replace hn := hn.below hb3
            clear hb3
            obtain ⟨m0, m1, m2, m3, m4⟩ := (Hm1.out w3 hbu n (k, s) HMM.out).five
            obtain ⟨k0, k1, k2, k3, k4⟩ := Hat.out w3 hbu
            simp only at m0 m1 k0 k1
            go_wp2
            go_quiet (fail)
            go_wp2
            exact ⟨⟨n + 1, by omega, by go_num, by rw [Hft.out]; rfl, hp.drewN nq, hn.drewN nq, M.below_drew hbu nq, M.below_drew hbr nq⟩, by simp [intOf]; omega⟩
        · obtain rfl : n = q := by omega
          have hfin : ((L.take n).filter fun x => T.sd x != 0).length = r := by rw [← Hr.out.1, List.take_length]; exact Hr.out.2
          rw [hfin]
          go_wp2_with (first
            | ((with_reducible refine wp_load_box rfl _ rfl ?_); refine ⟨_, _, rfl, hn, ?_⟩)
            | ((with_reducible refine wp_load_box_g rfl _ rfl ?_); refine ⟨_, _, rfl, hn, ?_⟩)
            | fail)
          refine (HN.out _ (HT.out _ hbr)).mono ?_
          rintro e u3 ⟨v3, rfl, hown3, hb⟩
          replace hbr := below_next hbr hb
          clear hb
          obtain ⟨ao3, cap3, rfl⟩ : ∃ ao cap, v3 = .slice ao 0 cap := by
            rcases hown3.2 with ⟨e, _⟩ | ⟨g, cap, cur, e, _⟩
            · exact ⟨_, _, e⟩
            · exact ⟨_, _, e⟩
          clear hown3
          go_wp2_with (first
            | (go_at_call 16; refine (awake14_any _ (HT.out _ hbr)).mono ?_; rintro e u4 ⟨rfl, hb⟩; replace hbr := below_next hbr hb; clear hb))
          go_ret
          exact ⟨rfl, hbr⟩
    · have hL0 : L = [] := by cases L with | nil => rfl | cons x l => simp at hl
      subst hL0
      obtain ⟨a1, cap1, rfl⟩ : ∃ ao cap, v1 = .slice ao 0 cap := by
        rcases hown1.2 with ⟨e, _⟩ | ⟨g, cap, cur, e, _⟩
        · exact ⟨_, _, e⟩
        · exact ⟨_, _, e⟩
      clear hown1 hown2 hB hc2 hl
      simp only [List.filter_nil, List.length_nil]
      have H0 := Lib.hid (And.intro hn hb0)
      clear hp hn hb0
      go_wp2
      go_loopw [10, 11] (fun x i wr => i = .int .i64 0 ∧ x = .int .i64 0 ∧ PosAt wr bn (upd (upd c 79 (-1)) (79 + 1) (-1)) ∧ Below w.heap.size w wr) (fun _ _ _ => 0)
      case atStart => exact ⟨rfl, rfl, H0.out.1, H0.out.2⟩
      case round =>
        obtain ⟨rfl, rfl, hn, hbr⟩ := hrel
        go_wp2_with (first
          | ((with_reducible refine wp_load_box rfl _ rfl ?_); refine ⟨_, _, rfl, hn, ?_⟩)
          | ((with_reducible refine wp_load_box_g rfl _ rfl ?_); refine ⟨_, _, rfl, hn, ?_⟩)
          | fail)
        refine (HN.out _ (HT.out _ hbr)).mono ?_
        rintro e u3 ⟨v3, rfl, hown3, hb⟩
        replace hbr := below_next hbr hb
        clear hb
        obtain ⟨ao3, cap3, rfl⟩ : ∃ ao cap, v3 = .slice ao 0 cap := by
          rcases hown3.2 with ⟨e, _⟩ | ⟨g, cap, cur, e, _⟩
          · exact ⟨_, _, e⟩
          · exact ⟨_, _, e⟩
        clear hown3
        go_wp2_with (first
          | (go_at_call 16; refine (awake14_any _ (HT.out _ hbr)).mono ?_; rintro e u4 ⟨rfl, hb⟩; replace hbr := below_next hbr hb; clear hb))
        go_ret
        exact ⟨rfl, hbr⟩

  · clear hi
    refine wpOp_at rfl rfl ?_
    unfold Oper.wp
    go_simp
    refine ⟨HS1.out, ?_⟩
    refine wpAnyH_all (rs := [2]) (by kernel_rfl) (by simp) (fun i hi => ?_)
    obtain rfl : i = 2 := by simpa using hi
    clear hi
    refine wpOp_at rfl rfl ?_
    unfold Oper.wp
    go_simp
    refine ⟨HS2.out, ?_⟩
    have hS2 := HS2.out
    clear HS1 HS2
    obtain ⟨bq, hbq⟩ : ∃ bq, W1.heap.size + 1 = bq := ⟨_, rfl⟩
    obtain ⟨bn, hbn⟩ : ∃ bn, W1.heap.size = bn := ⟨_, rfl⟩
    have hne : bq ≠ bn := by omega
    have hbq1 : w.heap.size < bq := by omega
    have hbn1 : w.heap.size < bn := by omega
    have hQ : RowAt ((W1.alloc (.cells Tryd.zeroCells31 31)).alloc (.cells Tryd.zeroCells31 31)) bq 31 Tryd.zeroCells31 := by rw [← hbq]; exact hB
    have hN : RowAt ((W1.alloc (.cells Tryd.zeroCells31 31)).alloc (.cells Tryd.zeroCells31 31)) bn 31 Tryd.zeroCells31 := by rw [← hbn]; exact hA
    rw [hbq, hbn]
    clear hbq hbn hA hB hz2
    revert hS2 hQ hN
    generalize (W1.alloc (.cells Tryd.zeroCells31 31)).alloc (.cells Tryd.zeroCells31 31) = W2
    intro hS2 hQ hN
    refine takeOne 4 (by kernel_rfl) (by kernel_rfl) (by kernel_rfl) ?_
    refine wp_store_row 31 (.tmp 6) (.tmp 23) (by kernel_rfl) bq (posC c) (by kernel_rfl) (by kernel_rfl) _ _ hQ.heap (posC_info _) (by rw [zero31_sizeC, posC_size]) (posC_one _) ?_
    have hV := put_setRow W2 bq (posC c)
    have hq : PosAt (W2.setRow bq (posC c)) bq c := ⟨setRow_heap _ _ _ _ _ _ hQ.heap⟩
    have hS3 : PosAt (W2.setRow bq (posC c)) w.heap.size c ∧ Below w.heap.size w (W2.setRow bq (posC c)) := ⟨hV.pos hS2.1 (by omega), hV.below hS2.2 (by omega)⟩
    have hN3 := hV.row hN (Ne.symm hne)
    refine ⟨hS3, ?_⟩
    have hall := And.intro hS3 (And.intro hq hN3)
    clear hV hS2 hQ hN hS3 hq hN3
    revert hall
    generalize W2.setRow bq (posC c) = W3
    rintro ⟨hS3, hq, hN3⟩
    refine takeOne 5 (by kernel_rfl) (by kernel_rfl) (by kernel_rfl) ?_
    refine wp_store_row 31 (.tmp 7) (.tmp 24) (by kernel_rfl) bn (posC c) (by kernel_rfl) (by kernel_rfl) _ _ hN3.heap (posC_info _) (by rw [zero31_sizeC, posC_size]) (posC_one _) ?_
    have hV := put_setRow W3 bn (posC c)
    have hn : PosAt (W3.setRow bn (posC c)) bn c := ⟨setRow_heap _ _ _ _ _ _ hN3.heap⟩
    have hS4 : PosAt (W3.setRow bn (posC c)) w.heap.size c ∧ Below w.heap.size w (W3.setRow bn (posC c)) := ⟨hV.pos hS3.1 (by omega), hV.below hS3.2 (by omega)⟩
    replace hq := hV.pos hq hne
    refine ⟨hS4, ?_⟩
    have hall := And.intro hS4 (And.intro hq hn)
    clear hV hS3 hN3 hS4 hq hn
    revert hall
    generalize W3.setRow bn (posC c) = W4
    rintro ⟨⟨hp, hb0⟩, hq, hn⟩
    refine wpAnyH_done (by kernel_rfl) ?_ _
    have h78 := hp.cell (i := 78) (by decide)
    rw [hct, show pk 78 = .u8 from rfl] at h78
    have h78q := hq.cell (i := 78) (by decide)
    rw [hct, show pk 78 = .u8 from rfl] at h78q
    go_wp2_with (first
      | ((with_reducible refine wp_store_cell rfl _ _ _ rfl ?_); refine ⟨_, _, _, _, _, rfl, rfl, hq, (by decide), rfl, Tryd.size_i8, ?_⟩; intro V hV hq2; replace hp := hV.pos hp (by omega); replace hn := hV.pos hn (Ne.symm hne); replace hb0 := hV.below hb0 (by omega); clear hV hq; have hq := hq2; clear hq2; have h78 := hp.cell (i := 78) (by decide); rw [hct, show pk 78 = .u8 from rfl] at h78)
      | ((with_reducible refine wp_store_two rfl _ _ _ rfl ?_); refine ⟨_, _, _, _, _, _, rfl, rfl, hn, (by decide), rfl, rfl, Tryd.size_2i8, ?_⟩; intro V hV hn2; replace hp := hV.pos hp (by omega); replace hq := hV.pos hq hne; replace hb0 := hV.below hb0 (by omega); clear hV hn; have hn := hn2; clear hn2; have h78 := hp.cell (i := 78) (by decide); rw [hct, show pk 78 = .u8 from rfl] at h78)
      | ((with_reducible refine wp_load_box rfl _ rfl ?_); refine ⟨_, _, rfl, hp, ?_⟩)
      | fail)
    refine (HL.out _ (HT.out _ hb0)).mono ?_
    rintro e u1 ⟨v1, rfl, hown1, hb⟩
    replace hp := hp.below hb
    replace hq := hq.below hb
    replace hn := hn.below hb
    replace hb0 := below_next hb0 hb
    clear hb
    go_wp2_with (first
      | ((with_reducible refine wp_load_box rfl _ rfl ?_); refine ⟨_, _, rfl, hq, ?_⟩)
      | fail)
    refine (HQ.out _ (HT.out _ hb0)).mono ?_
    rintro e u2 ⟨v2, rfl, hown2, hb⟩
    replace hp := hp.below hb
    replace hn := hn.below hb
    replace hown1 := owns_below hown1 hb
    replace hb0 := below_next hb0 hb
    clear hb hq
    obtain ⟨a2, cap2, rfl, hc2, hm2, hB⟩ := owns_row5 hown2
    by_cases hl : 0 < L.length
    · obtain ⟨b1, cap, rfl, hbb, hbs, hnc, hcm, hcells⟩ := owns_openN hown1 hl
      have Hm1 := Lib.hid (fun W (hb : Below u2.heap.size u2 W) i x (hx : L[i]? = some x) => (T.movAt hcells i x hx).below hb)
      have HB := Lib.hid (fun (hb0 : 0 < (L.filter fun x => T.sd x != 0).length) => (hB hb0).imp fun b2 h => (show a2 = some ⟨b2, 0, none⟩ ∧ b2 < u2.heap.size ∧ ∀ W (_ : Below u2.heap.size u2 W) i x (_ : (L.filter fun x => T.sd x != 0)[i]? = some x), T.MovAt W b2 (i * 5) x from ⟨h.1, h.2.2.1, fun W hb i x hx => (T.movAt h.2.2.2 i x hx).below hb⟩))
      clear hown1 hown2 hcells hbb hB
      unfold maxLen at hcm hm2
      obtain ⟨q, hqq⟩ : ∃ q, L.length = q := ⟨_, rfl⟩
      obtain ⟨r, hr⟩ : ∃ r, (L.filter fun x => T.sd x != 0).length = r := ⟨_, rfl⟩
      have hrq : r ≤ q := by rw [← hr, ← hqq]; exact List.length_filter_le _ _
      have Hr := Lib.hid (And.intro hqq hr)
      rw [hqq] at hl hnc hL2 ⊢
      rw [hr] at hc2 HB ⊢
      clear hqq hr
      have H0 := Lib.hid (And.intro hp (And.intro hn hb0))
      clear hp hn hb0
      go_wp2
      go_loopw [10, 11] (fun x i wr => ∃ n : Nat, n ≤ q ∧ i = .int .i64 (n : Int) ∧ x = .int .i64 ((((L.take n).filter fun x => T.sd x != 0).length : Nat) : Int) ∧ PosAt wr w.heap.size c ∧ PosAt wr bn (upd (upd c 79 (-1)) (79 + 1) (-1)) ∧ Below u2.heap.size u2 wr ∧ Below w.heap.size w wr) (fun _ i _ => q - (intOf i).toNat)
      case atStart => exact ⟨0, by omega, rfl, rfl, H0.out.1, H0.out.2.1, Below.refl _ _, H0.out.2.2⟩
      case round =>
        obtain ⟨n, hn', rfl, rfl, hp, hn, hbu, hbr⟩ := hrel
        by_cases hlt : n < q
        · obtain ⟨⟨k, s⟩, hm⟩ : ∃ m, L[n]? = some m := ⟨_, List.getElem?_eq_getElem (by rw [Hr.out.1]; exact hlt)⟩
          obtain ⟨m0, m1, m2, m3, m4⟩ := (Hm1.out wr hbu n (k, s) hm).five
          simp only at m0 m1
          obtain ⟨t', d', his⟩ := Hmem.out (k, s) (List.mem_of_getElem? hm)
          simp only at his
          have hd2 := his.d2
          have hk64 := his.khome
          have hs64 := his.shome
          have ht2 := his.t2
          have hsd : T.sd (k, s) = d' := by
            unfold T.sd
            by_cases hlk : k < s
            · rw [if_pos hlk, his.dir.1 hlk]
            · rw [if_neg hlk]; have h5 : ¬ d' = 0 := fun e => hlk (his.dir.2 e); omega
          have hft := T.filter_take (fun x => T.sd x != 0) L n (k, s) hm
          have hfg := T.filter_get (fun x => T.sd x != 0) L n (k, s) hm
          have hfl : ((L.take n).filter fun x => T.sd x != 0).length ≤ n := Nat.le_trans (List.length_filter_le _ _) (by rw [List.length_take]; omega)
          rw [hsd] at hft hfg
          have HS := Lib.hid (fun W => cside_eq c (k : Int) (s : Int) 0 0 true (d' : Int) W hc (by omega) (by omega) (T.side_is his))
          have hb1 : b1 < wr.heap.size := by have := hbu.size; omega
          have hlp := hp.lt
          generalize ((L.take n).filter fun x => T.sd x != 0).length = y at hft hfg hfl ⊢
          have Hft := Lib.hid hft
          have Hfg := Lib.hid hfg
          have HMM := Lib.hid hm
          clear hft hfg his hsd hk64 hs64 ht2 hm
          rcases (show d' = 0 ∨ d' = 1 by omega) with rfl | rfl
          · go_wp2_with fail
            refine region_below (by kernel_rfl) (by kernel_rfl) ?_
            repeat (first
              | go_big_quiet_step (first
                | (go_at_call 17; exact quiet_below (HS.out _)))
              | (go_big_quiet_want; refine quiet_load_box _ rfl ⟨_, _, rfl, hp, ?_⟩; simp only [Act.put, List.setIfInBounds_toArray, List.set_cons_succ, List.set_cons_zero]; go_big_quiet_on))
            refine wpQuiet_nil ?_
            intro w3 hb3
            go_wp2
            exact ⟨⟨n + 1, by omega, by go_num, by rw [Hft.out]; rfl, hp.below hb3, hn.below hb3, below_next hbu hb3, below_next hbr hb3⟩, by simp [intOf]; omega⟩
          · have hgt := Hfg.out (by decide)
            have hy : y < r := by rw [← Hr.out.2]; exact (List.getElem?_eq_some_iff.1 hgt).1
            obtain ⟨b2, rfl, hb2, hat⟩ := HB.out (by omega)
            have Hat := Lib.hid (fun W hb => (hat W hb y (k, s) hgt).five)
            clear hat hgt
            go_wp2_with fail
            refine region_below (by kernel_rfl) (by kernel_rfl) ?_
            repeat (first
              | go_big_quiet_step (first
                | (go_at_call 17; exact quiet_below (HS.out _)))
              | (go_big_quiet_want; refine quiet_load_box _ rfl ⟨_, _, rfl, hp, ?_⟩; simp only [Act.put, List.setIfInBounds_toArray, List.set_cons_succ, List.set_cons_zero]; go_big_quiet_on))
            refine wpQuiet_nil ?_
            intro w3 hb3
            clear m0 m1 m2 m3 m4
            replace hbu := below_next hbu hb3
            replace hbr := below_next hbr hb3
            replace hp := hp.below hb3
            replace hn := hn.below hb3
            clear hb3
            obtain ⟨m0, m1, m2, m3, m4⟩ := (Hm1.out w3 hbu n (k, s) HMM.out).five
            obtain ⟨k0, k1, k2, k3, k4⟩ := Hat.out w3 hbu
            simp only at m0 m1 k0 k1
            go_wp2
            go_quiet (fail)
            go_wp2
            exact ⟨⟨n + 1, by omega, by go_num, by rw [Hft.out]; rfl, hp.drewN nq, hn.drewN nq, M.below_drew hbu nq, M.below_drew hbr nq⟩, by simp [intOf]; omega⟩
        · obtain rfl : n = q := by omega
          have hfin : ((L.take n).filter fun x => T.sd x != 0).length = r := by rw [← Hr.out.1, List.take_length]; exact Hr.out.2
          rw [hfin]
          go_wp2_with (first
            | ((with_reducible refine wp_load_box rfl _ rfl ?_); refine ⟨_, _, rfl, hn, ?_⟩)
            | ((with_reducible refine wp_load_box_g rfl _ rfl ?_); refine ⟨_, _, rfl, hn, ?_⟩)
            | fail)
          refine (HN.out _ (HT.out _ hbr)).mono ?_
          rintro e u3 ⟨v3, rfl, hown3, hb⟩
          replace hbr := below_next hbr hb
          clear hb
          obtain ⟨ao3, cap3, rfl⟩ : ∃ ao cap, v3 = .slice ao 0 cap := by
            rcases hown3.2 with ⟨e, _⟩ | ⟨g, cap, cur, e, _⟩
            · exact ⟨_, _, e⟩
            · exact ⟨_, _, e⟩
          clear hown3
          go_wp2_with (first
            | (go_at_call 16; refine (awake14_any _ (HT.out _ hbr)).mono ?_; rintro e u4 ⟨rfl, hb⟩; replace hbr := below_next hbr hb; clear hb))
          go_ret
          exact ⟨rfl, hbr⟩
    · have hL0 : L = [] := by cases L with | nil => rfl | cons x l => simp at hl
      subst hL0
      obtain ⟨a1, cap1, rfl⟩ : ∃ ao cap, v1 = .slice ao 0 cap := by
        rcases hown1.2 with ⟨e, _⟩ | ⟨g, cap, cur, e, _⟩
        · exact ⟨_, _, e⟩
        · exact ⟨_, _, e⟩
      clear hown1 hown2 hB hc2 hl
      simp only [List.filter_nil, List.length_nil]
      have H0 := Lib.hid (And.intro hn hb0)
      clear hp hn hb0
      go_wp2
      go_loopw [10, 11] (fun x i wr => i = .int .i64 0 ∧ x = .int .i64 0 ∧ PosAt wr bn (upd (upd c 79 (-1)) (79 + 1) (-1)) ∧ Below w.heap.size w wr) (fun _ _ _ => 0)
      case atStart => exact ⟨rfl, rfl, H0.out.1, H0.out.2⟩
      case round =>
        obtain ⟨rfl, rfl, hn, hbr⟩ := hrel
        go_wp2_with (first
          | ((with_reducible refine wp_load_box rfl _ rfl ?_); refine ⟨_, _, rfl, hn, ?_⟩)
          | ((with_reducible refine wp_load_box_g rfl _ rfl ?_); refine ⟨_, _, rfl, hn, ?_⟩)
          | fail)
        refine (HN.out _ (HT.out _ hbr)).mono ?_
        rintro e u3 ⟨v3, rfl, hown3, hb⟩
        replace hbr := below_next hbr hb
        clear hb
        obtain ⟨ao3, cap3, rfl⟩ : ∃ ao cap, v3 = .slice ao 0 cap := by
          rcases hown3.2 with ⟨e, _⟩ | ⟨g, cap, cur, e, _⟩
          · exact ⟨_, _, e⟩
          · exact ⟨_, _, e⟩
        clear hown3
        go_wp2_with (first
          | (go_at_call 16; refine (awake14_any _ (HT.out _ hbr)).mono ?_; rintro e u4 ⟨rfl, hb⟩; replace hbr := below_next hbr hb; clear hb))
        go_ret
        exact ⟨rfl, hbr⟩

set_option maxRecDepth 100000 in
set_option maxHeartbeats 8000000 in
theorem castleRights_0t (c : Nat → Int) (w : World) (hc : PosOk c) (hT : Tb w) (hct : c 78 = 0) :
    Calls Tryd.prog 4 #[.agg (posC c), .bool true] w fun e w' => e = .returned (.bool true) ∧ Below w.heap.size w w' := by
  obtain ⟨L, hL⟩ : ∃ L, T.clist c = L := ⟨_, rfl⟩
  have hb0 : Below w.heap.size w (w.alloc (.cells (posC c) 31)) := (Below.refl _ _).alloc (Nat.le_refl _) _
  have hp := PosAt.new w c
  have HT := Lib.hid (fun W (hb : Below w.heap.size w W) => tb_below hT hb)
  have HL := Lib.hid (fun W (hT : Tb W) => clist_val c L W hc hT hL)
  have hlost : T.lost c 1 = upd c 80 (-1) := by unfold T.lost; rw [hct]; rfl
  have hall : T.lostAll c = upd (upd c 79 (-1)) (79 + 1) (-1) := by unfold T.lostAll; rw [hct]; rfl
  have hQl : T.clist (upd c 80 (-1)) = L.filter fun x => T.sd x != 1 := by rw [← hlost, T.clist_lost c 1 hc (by decide), hL]
  have hNl : T.clist (upd (upd c 79 (-1)) (79 + 1) (-1)) = [] := by rw [← hall, T.clist_lostAll]
  have hcq : PosOk (upd c 80 (-1)) := posOk_upd hc _ _ (by decide)
  have hcn : PosOk (upd (upd c 79 (-1)) (79 + 1) (-1)) := posOk_upd (posOk_upd hc _ _ (by decide)) _ _ (by decide)
  have HQ := Lib.hid (fun W (hT : Tb W) => clist_val _ _ W hcq hT hQl)
  have HN := Lib.hid (fun W (hT : Tb W) => clist_val _ _ W hcn hT hNl)
  have hmem : ∀ x ∈ L, ∃ t d, T.Is c t d x.1 x.2 := fun x hx => T.clist_mem c x hc (by rw [hL]; exact hx)
  have Hmem := Lib.hid hmem
  have hL2 : L.length ≤ 2 := by rw [← hL]; exact T.clist_len c
  clear hlost hall hQl hNl hcq hcn hmem hT hL
  have h78 := hp.cell (i := 78) (by decide)
  rw [hct, show pk 78 = .u8 from rfl] at h78
  have hu := Tryd.underlying31
  have hinfo : (Tryd.prog.info? 31).map (·.size) = some (posL c).length := by rw [Tryd.infoPos]; simp [posL]
  go_enter Tryd.func4, Tryd.ntmps4
  go_wp2
  generalize hW0 : w.alloc (.cells (posC c) 31) = W0 at hp hb0 ⊢
  have hSd : PosAt W0.drew w.heap.size c ∧ Below w.heap.size w W0.drew := ⟨⟨hp.heap⟩, M.below_drew hb0 1⟩
  clear h78
  refine wp_region_held (S := fun w' => PosAt w' w.heap.size c ∧ Below w.heap.size w w') (by kernel_rfl) ?_
  change wpAnyH _ _ _ _ _ _ _ _ W0.drew
  clear hW0 hp hb0
  generalize W0.drew = W1 at hSd ⊢
  refine takeD 0 (some 23) (.agg (posC c)) (by kernel_rfl) (by kernel_rfl) (by kernel_rfl) (by kernel_rfl) (by kernel_rfl) (fun _ _ _ h => h) (yieldsIf_load_mid (by kernel_rfl) 31 (.tmp 2) (by kernel_rfl) w.heap.size 0 (by kernel_rfl) (posL c) _ (fun _ h => pos_range h.1.heap) hu rfl hinfo) hSd ?_
  simp only [Act.put, List.setIfInBounds_toArray, List.set_cons_succ, List.set_cons_zero]
  refine takeD 1 (some 24) (.agg (posC c)) (by kernel_rfl) (by kernel_rfl) (by kernel_rfl) (by kernel_rfl) (by kernel_rfl) (fun _ _ _ h => h) (yieldsIf_load_mid (by kernel_rfl) 31 (.tmp 2) (by kernel_rfl) w.heap.size 0 (by kernel_rfl) (posL c) _ (fun _ h => pos_range h.1.heap) hu rfl hinfo) hSd ?_
  simp only [Act.put, List.setIfInBounds_toArray, List.set_cons_succ, List.set_cons_zero]
  have hlt := hSd.1.lt
  have hS1 : PosAt (W1.alloc (.cells Tryd.zeroCells31 31)) w.heap.size c ∧ Below w.heap.size w (W1.alloc (.cells Tryd.zeroCells31 31)) := ⟨hSd.1.alloc _, hSd.2.alloc hSd.2.size _⟩
  have hS2 : PosAt ((W1.alloc (.cells Tryd.zeroCells31 31)).alloc (.cells Tryd.zeroCells31 31)) w.heap.size c ∧ Below w.heap.size w ((W1.alloc (.cells Tryd.zeroCells31 31)).alloc (.cells Tryd.zeroCells31 31)) := ⟨hS1.1.alloc _, hS1.2.alloc hS1.2.size _⟩
  have hA : RowAt ((W1.alloc (.cells Tryd.zeroCells31 31)).alloc (.cells Tryd.zeroCells31 31)) W1.heap.size 31 Tryd.zeroCells31 := (RowAt.new W1 _ _).alloc _
  have hB : RowAt ((W1.alloc (.cells Tryd.zeroCells31 31)).alloc (.cells Tryd.zeroCells31 31)) (W1.heap.size + 1) 31 Tryd.zeroCells31 := by
    have := RowAt.new (W1.alloc (.cells Tryd.zeroCells31 31)) Tryd.zeroCells31 31
    rwa [World.size_alloc] at this
  have hz2 : ((W1.alloc (.cells Tryd.zeroCells31 31)).alloc (.cells Tryd.zeroCells31 31)).heap.size = W1.heap.size + 2 := by simp
  have hz2 : W1.heap.size + 1 < ((W1.alloc (.cells Tryd.zeroCells31 31)).alloc (.cells Tryd.zeroCells31 31)).heap.size := by omega
  have HS1 := Lib.hid hS1
  have HS2 := Lib.hid hS2
  clear hS1 hS2
  refine wpAnyH_all (rs := [2, 3]) (by kernel_rfl) (by simp) (fun i hi => ?_)
  obtain rfl | rfl : i = 2 ∨ i = 3 := by simpa using hi
  · clear hi
    refine wpOp_at rfl rfl ?_
    unfold Oper.wp
    go_simp
    refine ⟨HS1.out, ?_⟩
    refine wpAnyH_all (rs := [3]) (by kernel_rfl) (by simp) (fun i hi => ?_)
    obtain rfl : i = 3 := by simpa using hi
    clear hi
    refine wpOp_at rfl rfl ?_
    unfold Oper.wp
    go_simp
    refine ⟨HS2.out, ?_⟩
    have hS2 := HS2.out
    clear HS1 HS2
    obtain ⟨bq, hbq⟩ : ∃ bq, W1.heap.size = bq := ⟨_, rfl⟩
    obtain ⟨bn, hbn⟩ : ∃ bn, W1.heap.size + 1 = bn := ⟨_, rfl⟩
    have hne : bq ≠ bn := by omega
    have hbq1 : w.heap.size < bq := by omega
    have hbn1 : w.heap.size < bn := by omega
    have hQ : RowAt ((W1.alloc (.cells Tryd.zeroCells31 31)).alloc (.cells Tryd.zeroCells31 31)) bq 31 Tryd.zeroCells31 := by rw [← hbq]; exact hA
    have hN : RowAt ((W1.alloc (.cells Tryd.zeroCells31 31)).alloc (.cells Tryd.zeroCells31 31)) bn 31 Tryd.zeroCells31 := by rw [← hbn]; exact hB
    rw [hbn, hbq]
    clear hbq hbn hA hB hz2
    revert hS2 hQ hN
    generalize (W1.alloc (.cells Tryd.zeroCells31 31)).alloc (.cells Tryd.zeroCells31 31) = W2
    intro hS2 hQ hN
    refine takeOne 4 (by kernel_rfl) (by kernel_rfl) (by kernel_rfl) ?_
    refine wp_store_row 31 (.tmp 6) (.tmp 23) (by kernel_rfl) bq (posC c) (by kernel_rfl) (by kernel_rfl) _ _ hQ.heap (posC_info _) (by rw [zero31_sizeC, posC_size]) (posC_one _) ?_
    have hV := put_setRow W2 bq (posC c)
    have hq : PosAt (W2.setRow bq (posC c)) bq c := ⟨setRow_heap _ _ _ _ _ _ hQ.heap⟩
    have hS3 : PosAt (W2.setRow bq (posC c)) w.heap.size c ∧ Below w.heap.size w (W2.setRow bq (posC c)) := ⟨hV.pos hS2.1 (by omega), hV.below hS2.2 (by omega)⟩
    have hN3 := hV.row hN (Ne.symm hne)
    refine ⟨hS3, ?_⟩
    have hall := And.intro hS3 (And.intro hq hN3)
    clear hV hS2 hQ hN hS3 hq hN3
    revert hall
    generalize W2.setRow bq (posC c) = W3
    rintro ⟨hS3, hq, hN3⟩
    refine takeOne 5 (by kernel_rfl) (by kernel_rfl) (by kernel_rfl) ?_
    refine wp_store_row 31 (.tmp 7) (.tmp 24) (by kernel_rfl) bn (posC c) (by kernel_rfl) (by kernel_rfl) _ _ hN3.heap (posC_info _) (by rw [zero31_sizeC, posC_size]) (posC_one _) ?_
    have hV := put_setRow W3 bn (posC c)
    have hn : PosAt (W3.setRow bn (posC c)) bn c := ⟨setRow_heap _ _ _ _ _ _ hN3.heap⟩
    have hS4 : PosAt (W3.setRow bn (posC c)) w.heap.size c ∧ Below w.heap.size w (W3.setRow bn (posC c)) := ⟨hV.pos hS3.1 (by omega), hV.below hS3.2 (by omega)⟩
    replace hq := hV.pos hq hne
    refine ⟨hS4, ?_⟩
    have hall := And.intro hS4 (And.intro hq hn)
    clear hV hS3 hN3 hS4 hq hn
    revert hall
    generalize W3.setRow bn (posC c) = W4
    rintro ⟨⟨hp, hb0⟩, hq, hn⟩
    refine wpAnyH_done (by kernel_rfl) ?_ _
    have h78 := hp.cell (i := 78) (by decide)
    rw [hct, show pk 78 = .u8 from rfl] at h78
    have h78q := hq.cell (i := 78) (by decide)
    rw [hct, show pk 78 = .u8 from rfl] at h78q
    go_wp2_with (first
      | ((with_reducible refine wp_store_cell rfl _ _ _ rfl ?_); refine ⟨_, _, _, _, _, rfl, rfl, hq, (by decide), rfl, Tryd.size_i8, ?_⟩; intro V hV hq2; replace hp := hV.pos hp (by omega); replace hn := hV.pos hn (Ne.symm hne); replace hb0 := hV.below hb0 (by omega); clear hV hq; have hq := hq2; clear hq2; have h78 := hp.cell (i := 78) (by decide); rw [hct, show pk 78 = .u8 from rfl] at h78)
      | ((with_reducible refine wp_store_two rfl _ _ _ rfl ?_); refine ⟨_, _, _, _, _, _, rfl, rfl, hn, (by decide), rfl, rfl, Tryd.size_2i8, ?_⟩; intro V hV hn2; replace hp := hV.pos hp (by omega); replace hq := hV.pos hq hne; replace hb0 := hV.below hb0 (by omega); clear hV hn; have hn := hn2; clear hn2; have h78 := hp.cell (i := 78) (by decide); rw [hct, show pk 78 = .u8 from rfl] at h78)
      | ((with_reducible refine wp_load_box rfl _ rfl ?_); refine ⟨_, _, rfl, hp, ?_⟩)
      | fail)
    refine (HL.out _ (HT.out _ hb0)).mono ?_
    rintro e u1 ⟨v1, rfl, hown1, hb⟩
    replace hp := hp.below hb
    replace hq := hq.below hb
    replace hn := hn.below hb
    replace hb0 := below_next hb0 hb
    clear hb
    go_wp2_with (first
      | ((with_reducible refine wp_load_box rfl _ rfl ?_); refine ⟨_, _, rfl, hq, ?_⟩)
      | fail)
    refine (HQ.out _ (HT.out _ hb0)).mono ?_
    rintro e u2 ⟨v2, rfl, hown2, hb⟩
    replace hp := hp.below hb
    replace hn := hn.below hb
    replace hown1 := owns_below hown1 hb
    replace hb0 := below_next hb0 hb
    clear hb hq
    obtain ⟨a2, cap2, rfl, hc2, hm2, hB⟩ := owns_row5 hown2
    by_cases hl : 0 < L.length
    · obtain ⟨b1, cap, rfl, hbb, hbs, hnc, hcm, hcells⟩ := owns_openN hown1 hl
      have Hm1 := Lib.hid (fun W (hb : Below u2.heap.size u2 W) i x (hx : L[i]? = some x) => (T.movAt hcells i x hx).below hb)
      have HB := Lib.hid (fun (hb0 : 0 < (L.filter fun x => T.sd x != 1).length) => (hB hb0).imp fun b2 h => (show a2 = some ⟨b2, 0, none⟩ ∧ b2 < u2.heap.size ∧ ∀ W (_ : Below u2.heap.size u2 W) i x (_ : (L.filter fun x => T.sd x != 1)[i]? = some x), T.MovAt W b2 (i * 5) x from ⟨h.1, h.2.2.1, fun W hb i x hx => (T.movAt h.2.2.2 i x hx).below hb⟩))
      clear hown1 hown2 hcells hbb hB
      unfold maxLen at hcm hm2
      obtain ⟨q, hqq⟩ : ∃ q, L.length = q := ⟨_, rfl⟩
      obtain ⟨r, hr⟩ : ∃ r, (L.filter fun x => T.sd x != 1).length = r := ⟨_, rfl⟩
      have hrq : r ≤ q := by rw [← hr, ← hqq]; exact List.length_filter_le _ _
      have Hr := Lib.hid (And.intro hqq hr)
      rw [hqq] at hl hnc hL2 ⊢
      rw [hr] at hc2 HB ⊢
      clear hqq hr
      have H0 := Lib.hid (And.intro hp (And.intro hn hb0))
      clear hp hn hb0
      go_wp2
      go_loopw [10, 11] (fun x i wr => ∃ n : Nat, n ≤ q ∧ i = .int .i64 (n : Int) ∧ x = .int .i64 ((((L.take n).filter fun x => T.sd x != 1).length : Nat) : Int) ∧ PosAt wr w.heap.size c ∧ PosAt wr bn (upd (upd c 79 (-1)) (79 + 1) (-1)) ∧ Below u2.heap.size u2 wr ∧ Below w.heap.size w wr) (fun _ i _ => q - (intOf i).toNat)
      case atStart => exact ⟨0, by omega, rfl, rfl, H0.out.1, H0.out.2.1, Below.refl _ _, H0.out.2.2⟩
      case round =>
        obtain ⟨n, hn', rfl, rfl, hp, hn, hbu, hbr⟩ := hrel
        by_cases hlt : n < q
        · obtain ⟨⟨k, s⟩, hm⟩ : ∃ m, L[n]? = some m := ⟨_, List.getElem?_eq_getElem (by rw [Hr.out.1]; exact hlt)⟩
          obtain ⟨m0, m1, m2, m3, m4⟩ := (Hm1.out wr hbu n (k, s) hm).five
          simp only at m0 m1
          obtain ⟨t', d', his⟩ := Hmem.out (k, s) (List.mem_of_getElem? hm)
          simp only at his
          have hd2 := his.d2
          have hk64 := his.khome
          have hs64 := his.shome
          have ht2 := his.t2
          have hsd : T.sd (k, s) = d' := by
            unfold T.sd
            by_cases hlk : k < s
            · rw [if_pos hlk, his.dir.1 hlk]
            · rw [if_neg hlk]; have h5 : ¬ d' = 0 := fun e => hlk (his.dir.2 e); omega
          have hft := T.filter_take (fun x => T.sd x != 1) L n (k, s) hm
          have hfg := T.filter_get (fun x => T.sd x != 1) L n (k, s) hm
          have hfl : ((L.take n).filter fun x => T.sd x != 1).length ≤ n := Nat.le_trans (List.length_filter_le _ _) (by rw [List.length_take]; omega)
          rw [hsd] at hft hfg
          have HS := Lib.hid (fun W => cside_eq c (k : Int) (s : Int) 0 0 true (d' : Int) W hc (by omega) (by omega) (T.side_is his))
          have hb1 : b1 < wr.heap.size := by have := hbu.size; omega
          have hlp := hp.lt
          generalize ((L.take n).filter fun x => T.sd x != 1).length = y at hft hfg hfl ⊢
          have Hft := Lib.hid hft
          have Hfg := Lib.hid hfg
          have HMM := Lib.hid hm
          clear hft hfg his hsd hk64 hs64 ht2 hm
          rcases (show d' = 1 ∨ d' = 0 by omega) with rfl | rfl
          · go_wp2_with fail
            refine region_below (by kernel_rfl) (by kernel_rfl) ?_
            repeat (first
              | go_big_quiet_step (first
                | (go_at_call 17; exact quiet_below (HS.out _)))
              | (go_big_quiet_want; refine quiet_load_box _ rfl ⟨_, _, rfl, hp, ?_⟩; simp only [Act.put, List.setIfInBounds_toArray, List.set_cons_succ, List.set_cons_zero]; go_big_quiet_on))
            refine wpQuiet_nil ?_
            intro w3 hb3
            go_wp2
            exact ⟨⟨n + 1, by omega, by go_num, by rw [Hft.out]; rfl, hp.below hb3, hn.below hb3, below_next hbu hb3, below_next hbr hb3⟩, by simp [intOf]; omega⟩
          · have hgt := Hfg.out (by decide)
            have hy : y < r := by rw [← Hr.out.2]; exact (List.getElem?_eq_some_iff.1 hgt).1
            obtain ⟨b2, rfl, hb2, hat⟩ := HB.out (by omega)
            have Hat := Lib.hid (fun W hb => (hat W hb y (k, s) hgt).five)
            clear hat hgt
            go_wp2_with fail
            refine region_below (by kernel_rfl) (by kernel_rfl) ?_
            repeat (first
              | go_big_quiet_step (first
                | (go_at_call 17; exact quiet_below (HS.out _)))
              | (go_big_quiet_want; refine quiet_load_box _ rfl ⟨_, _, rfl, hp, ?_⟩; simp only [Act.put, List.setIfInBounds_toArray, List.set_cons_succ, List.set_cons_zero]; go_big_quiet_on))
            refine wpQuiet_nil ?_
            intro w3 hb3
            clear m0 m1 m2 m3 m4
            replace hbu := below_next hbu hb3
            replace hbr := below_next hbr hb3
            replace hp := hp.below hb3
            replace hn := hn.below hb3
            clear hb3
            obtain ⟨m0, m1, m2, m3, m4⟩ := (Hm1.out w3 hbu n (k, s) HMM.out).five
            obtain ⟨k0, k1, k2, k3, k4⟩ := Hat.out w3 hbu
            simp only at m0 m1 k0 k1
            go_wp2
            go_quiet (fail)
            go_wp2
            exact ⟨⟨n + 1, by omega, by go_num, by rw [Hft.out]; rfl, hp.drewN nq, hn.drewN nq, M.below_drew hbu nq, M.below_drew hbr nq⟩, by simp [intOf]; omega⟩
        · obtain rfl : n = q := by omega
          have hfin : ((L.take n).filter fun x => T.sd x != 1).length = r := by rw [← Hr.out.1, List.take_length]; exact Hr.out.2
          rw [hfin]
          go_wp2_with (first
            | ((with_reducible refine wp_load_box rfl _ rfl ?_); refine ⟨_, _, rfl, hn, ?_⟩)
            | ((with_reducible refine wp_load_box_g rfl _ rfl ?_); refine ⟨_, _, rfl, hn, ?_⟩)
            | fail)
          refine (HN.out _ (HT.out _ hbr)).mono ?_
          rintro e u3 ⟨v3, rfl, hown3, hb⟩
          replace hbr := below_next hbr hb
          clear hb
          obtain ⟨ao3, cap3, rfl⟩ : ∃ ao cap, v3 = .slice ao 0 cap := by
            rcases hown3.2 with ⟨e, _⟩ | ⟨g, cap, cur, e, _⟩
            · exact ⟨_, _, e⟩
            · exact ⟨_, _, e⟩
          clear hown3
          go_wp2_with (first
            | (go_at_call 16; refine (awake14_any _ (HT.out _ hbr)).mono ?_; rintro e u4 ⟨rfl, hb⟩; replace hbr := below_next hbr hb; clear hb))
          go_ret
          exact ⟨rfl, hbr⟩
    · have hL0 : L = [] := by cases L with | nil => rfl | cons x l => simp at hl
      subst hL0
      obtain ⟨a1, cap1, rfl⟩ : ∃ ao cap, v1 = .slice ao 0 cap := by
        rcases hown1.2 with ⟨e, _⟩ | ⟨g, cap, cur, e, _⟩
        · exact ⟨_, _, e⟩
        · exact ⟨_, _, e⟩
      clear hown1 hown2 hB hc2 hl
      simp only [List.filter_nil, List.length_nil]
      have H0 := Lib.hid (And.intro hn hb0)
      clear hp hn hb0
      go_wp2
      go_loopw [10, 11] (fun x i wr => i = .int .i64 0 ∧ x = .int .i64 0 ∧ PosAt wr bn (upd (upd c 79 (-1)) (79 + 1) (-1)) ∧ Below w.heap.size w wr) (fun _ _ _ => 0)
      case atStart => exact ⟨rfl, rfl, H0.out.1, H0.out.2⟩
      case round =>
        obtain ⟨rfl, rfl, hn, hbr⟩ := hrel
        go_wp2_with (first
          | ((with_reducible refine wp_load_box rfl _ rfl ?_); refine ⟨_, _, rfl, hn, ?_⟩)
          | ((with_reducible refine wp_load_box_g rfl _ rfl ?_); refine ⟨_, _, rfl, hn, ?_⟩)
          | fail)
        refine (HN.out _ (HT.out _ hbr)).mono ?_
        rintro e u3 ⟨v3, rfl, hown3, hb⟩
        replace hbr := below_next hbr hb
        clear hb
        obtain ⟨ao3, cap3, rfl⟩ : ∃ ao cap, v3 = .slice ao 0 cap := by
          rcases hown3.2 with ⟨e, _⟩ | ⟨g, cap, cur, e, _⟩
          · exact ⟨_, _, e⟩
          · exact ⟨_, _, e⟩
        clear hown3
        go_wp2_with (first
          | (go_at_call 16; refine (awake14_any _ (HT.out _ hbr)).mono ?_; rintro e u4 ⟨rfl, hb⟩; replace hbr := below_next hbr hb; clear hb))
        go_ret
        exact ⟨rfl, hbr⟩

  · clear hi
    refine wpOp_at rfl rfl ?_
    unfold Oper.wp
    go_simp
    refine ⟨HS1.out, ?_⟩
    refine wpAnyH_all (rs := [2]) (by kernel_rfl) (by simp) (fun i hi => ?_)
    obtain rfl : i = 2 := by simpa using hi
    clear hi
    refine wpOp_at rfl rfl ?_
    unfold Oper.wp
    go_simp
    refine ⟨HS2.out, ?_⟩
    have hS2 := HS2.out
    clear HS1 HS2
    obtain ⟨bq, hbq⟩ : ∃ bq, W1.heap.size + 1 = bq := ⟨_, rfl⟩
    obtain ⟨bn, hbn⟩ : ∃ bn, W1.heap.size = bn := ⟨_, rfl⟩
    have hne : bq ≠ bn := by omega
    have hbq1 : w.heap.size < bq := by omega
    have hbn1 : w.heap.size < bn := by omega
    have hQ : RowAt ((W1.alloc (.cells Tryd.zeroCells31 31)).alloc (.cells Tryd.zeroCells31 31)) bq 31 Tryd.zeroCells31 := by rw [← hbq]; exact hB
    have hN : RowAt ((W1.alloc (.cells Tryd.zeroCells31 31)).alloc (.cells Tryd.zeroCells31 31)) bn 31 Tryd.zeroCells31 := by rw [← hbn]; exact hA
    rw [hbq, hbn]
    clear hbq hbn hA hB hz2
    revert hS2 hQ hN
    generalize (W1.alloc (.cells Tryd.zeroCells31 31)).alloc (.cells Tryd.zeroCells31 31) = W2
    intro hS2 hQ hN
    refine takeOne 4 (by kernel_rfl) (by kernel_rfl) (by kernel_rfl) ?_
    refine wp_store_row 31 (.tmp 6) (.tmp 23) (by kernel_rfl) bq (posC c) (by kernel_rfl) (by kernel_rfl) _ _ hQ.heap (posC_info _) (by rw [zero31_sizeC, posC_size]) (posC_one _) ?_
    have hV := put_setRow W2 bq (posC c)
    have hq : PosAt (W2.setRow bq (posC c)) bq c := ⟨setRow_heap _ _ _ _ _ _ hQ.heap⟩
    have hS3 : PosAt (W2.setRow bq (posC c)) w.heap.size c ∧ Below w.heap.size w (W2.setRow bq (posC c)) := ⟨hV.pos hS2.1 (by omega), hV.below hS2.2 (by omega)⟩
    have hN3 := hV.row hN (Ne.symm hne)
    refine ⟨hS3, ?_⟩
    have hall := And.intro hS3 (And.intro hq hN3)
    clear hV hS2 hQ hN hS3 hq hN3
    revert hall
    generalize W2.setRow bq (posC c) = W3
    rintro ⟨hS3, hq, hN3⟩
    refine takeOne 5 (by kernel_rfl) (by kernel_rfl) (by kernel_rfl) ?_
    refine wp_store_row 31 (.tmp 7) (.tmp 24) (by kernel_rfl) bn (posC c) (by kernel_rfl) (by kernel_rfl) _ _ hN3.heap (posC_info _) (by rw [zero31_sizeC, posC_size]) (posC_one _) ?_
    have hV := put_setRow W3 bn (posC c)
    have hn : PosAt (W3.setRow bn (posC c)) bn c := ⟨setRow_heap _ _ _ _ _ _ hN3.heap⟩
    have hS4 : PosAt (W3.setRow bn (posC c)) w.heap.size c ∧ Below w.heap.size w (W3.setRow bn (posC c)) := ⟨hV.pos hS3.1 (by omega), hV.below hS3.2 (by omega)⟩
    replace hq := hV.pos hq hne
    refine ⟨hS4, ?_⟩
    have hall := And.intro hS4 (And.intro hq hn)
    clear hV hS3 hN3 hS4 hq hn
    revert hall
    generalize W3.setRow bn (posC c) = W4
    rintro ⟨⟨hp, hb0⟩, hq, hn⟩
    refine wpAnyH_done (by kernel_rfl) ?_ _
    have h78 := hp.cell (i := 78) (by decide)
    rw [hct, show pk 78 = .u8 from rfl] at h78
    have h78q := hq.cell (i := 78) (by decide)
    rw [hct, show pk 78 = .u8 from rfl] at h78q
    go_wp2_with (first
      | ((with_reducible refine wp_store_cell rfl _ _ _ rfl ?_); refine ⟨_, _, _, _, _, rfl, rfl, hq, (by decide), rfl, Tryd.size_i8, ?_⟩; intro V hV hq2; replace hp := hV.pos hp (by omega); replace hn := hV.pos hn (Ne.symm hne); replace hb0 := hV.below hb0 (by omega); clear hV hq; have hq := hq2; clear hq2; have h78 := hp.cell (i := 78) (by decide); rw [hct, show pk 78 = .u8 from rfl] at h78)
      | ((with_reducible refine wp_store_two rfl _ _ _ rfl ?_); refine ⟨_, _, _, _, _, _, rfl, rfl, hn, (by decide), rfl, rfl, Tryd.size_2i8, ?_⟩; intro V hV hn2; replace hp := hV.pos hp (by omega); replace hq := hV.pos hq hne; replace hb0 := hV.below hb0 (by omega); clear hV hn; have hn := hn2; clear hn2; have h78 := hp.cell (i := 78) (by decide); rw [hct, show pk 78 = .u8 from rfl] at h78)
      | ((with_reducible refine wp_load_box rfl _ rfl ?_); refine ⟨_, _, rfl, hp, ?_⟩)
      | fail)
    refine (HL.out _ (HT.out _ hb0)).mono ?_
    rintro e u1 ⟨v1, rfl, hown1, hb⟩
    replace hp := hp.below hb
    replace hq := hq.below hb
    replace hn := hn.below hb
    replace hb0 := below_next hb0 hb
    clear hb
    go_wp2_with (first
      | ((with_reducible refine wp_load_box rfl _ rfl ?_); refine ⟨_, _, rfl, hq, ?_⟩)
      | fail)
    refine (HQ.out _ (HT.out _ hb0)).mono ?_
    rintro e u2 ⟨v2, rfl, hown2, hb⟩
    replace hp := hp.below hb
    replace hn := hn.below hb
    replace hown1 := owns_below hown1 hb
    replace hb0 := below_next hb0 hb
    clear hb hq
    obtain ⟨a2, cap2, rfl, hc2, hm2, hB⟩ := owns_row5 hown2
    by_cases hl : 0 < L.length
    · obtain ⟨b1, cap, rfl, hbb, hbs, hnc, hcm, hcells⟩ := owns_openN hown1 hl
      have Hm1 := Lib.hid (fun W (hb : Below u2.heap.size u2 W) i x (hx : L[i]? = some x) => (T.movAt hcells i x hx).below hb)
      have HB := Lib.hid (fun (hb0 : 0 < (L.filter fun x => T.sd x != 1).length) => (hB hb0).imp fun b2 h => (show a2 = some ⟨b2, 0, none⟩ ∧ b2 < u2.heap.size ∧ ∀ W (_ : Below u2.heap.size u2 W) i x (_ : (L.filter fun x => T.sd x != 1)[i]? = some x), T.MovAt W b2 (i * 5) x from ⟨h.1, h.2.2.1, fun W hb i x hx => (T.movAt h.2.2.2 i x hx).below hb⟩))
      clear hown1 hown2 hcells hbb hB
      unfold maxLen at hcm hm2
      obtain ⟨q, hqq⟩ : ∃ q, L.length = q := ⟨_, rfl⟩
      obtain ⟨r, hr⟩ : ∃ r, (L.filter fun x => T.sd x != 1).length = r := ⟨_, rfl⟩
      have hrq : r ≤ q := by rw [← hr, ← hqq]; exact List.length_filter_le _ _
      have Hr := Lib.hid (And.intro hqq hr)
      rw [hqq] at hl hnc hL2 ⊢
      rw [hr] at hc2 HB ⊢
      clear hqq hr
      have H0 := Lib.hid (And.intro hp (And.intro hn hb0))
      clear hp hn hb0
      go_wp2
      go_loopw [10, 11] (fun x i wr => ∃ n : Nat, n ≤ q ∧ i = .int .i64 (n : Int) ∧ x = .int .i64 ((((L.take n).filter fun x => T.sd x != 1).length : Nat) : Int) ∧ PosAt wr w.heap.size c ∧ PosAt wr bn (upd (upd c 79 (-1)) (79 + 1) (-1)) ∧ Below u2.heap.size u2 wr ∧ Below w.heap.size w wr) (fun _ i _ => q - (intOf i).toNat)
      case atStart => exact ⟨0, by omega, rfl, rfl, H0.out.1, H0.out.2.1, Below.refl _ _, H0.out.2.2⟩
      case round =>
        obtain ⟨n, hn', rfl, rfl, hp, hn, hbu, hbr⟩ := hrel
        by_cases hlt : n < q
        · obtain ⟨⟨k, s⟩, hm⟩ : ∃ m, L[n]? = some m := ⟨_, List.getElem?_eq_getElem (by rw [Hr.out.1]; exact hlt)⟩
          obtain ⟨m0, m1, m2, m3, m4⟩ := (Hm1.out wr hbu n (k, s) hm).five
          simp only at m0 m1
          obtain ⟨t', d', his⟩ := Hmem.out (k, s) (List.mem_of_getElem? hm)
          simp only at his
          have hd2 := his.d2
          have hk64 := his.khome
          have hs64 := his.shome
          have ht2 := his.t2
          have hsd : T.sd (k, s) = d' := by
            unfold T.sd
            by_cases hlk : k < s
            · rw [if_pos hlk, his.dir.1 hlk]
            · rw [if_neg hlk]; have h5 : ¬ d' = 0 := fun e => hlk (his.dir.2 e); omega
          have hft := T.filter_take (fun x => T.sd x != 1) L n (k, s) hm
          have hfg := T.filter_get (fun x => T.sd x != 1) L n (k, s) hm
          have hfl : ((L.take n).filter fun x => T.sd x != 1).length ≤ n := Nat.le_trans (List.length_filter_le _ _) (by rw [List.length_take]; omega)
          rw [hsd] at hft hfg
          have HS := Lib.hid (fun W => cside_eq c (k : Int) (s : Int) 0 0 true (d' : Int) W hc (by omega) (by omega) (T.side_is his))
          have hb1 : b1 < wr.heap.size := by have := hbu.size; omega
          have hlp := hp.lt
          generalize ((L.take n).filter fun x => T.sd x != 1).length = y at hft hfg hfl ⊢
          have Hft := Lib.hid hft
          have Hfg := Lib.hid hfg
          have HMM := Lib.hid hm
          clear hft hfg his hsd hk64 hs64 ht2 hm
          rcases (show d' = 1 ∨ d' = 0 by omega) with rfl | rfl
          · go_wp2_with fail
            refine region_below (by kernel_rfl) (by kernel_rfl) ?_
            repeat (first
              | go_big_quiet_step (first
                | (go_at_call 17; exact quiet_below (HS.out _)))
              | (go_big_quiet_want; refine quiet_load_box _ rfl ⟨_, _, rfl, hp, ?_⟩; simp only [Act.put, List.setIfInBounds_toArray, List.set_cons_succ, List.set_cons_zero]; go_big_quiet_on))
            refine wpQuiet_nil ?_
            intro w3 hb3
            go_wp2
            exact ⟨⟨n + 1, by omega, by go_num, by rw [Hft.out]; rfl, hp.below hb3, hn.below hb3, below_next hbu hb3, below_next hbr hb3⟩, by simp [intOf]; omega⟩
          · have hgt := Hfg.out (by decide)
            have hy : y < r := by rw [← Hr.out.2]; exact (List.getElem?_eq_some_iff.1 hgt).1
            obtain ⟨b2, rfl, hb2, hat⟩ := HB.out (by omega)
            have Hat := Lib.hid (fun W hb => (hat W hb y (k, s) hgt).five)
            clear hat hgt
            go_wp2_with fail
            refine region_below (by kernel_rfl) (by kernel_rfl) ?_
            repeat (first
              | go_big_quiet_step (first
                | (go_at_call 17; exact quiet_below (HS.out _)))
              | (go_big_quiet_want; refine quiet_load_box _ rfl ⟨_, _, rfl, hp, ?_⟩; simp only [Act.put, List.setIfInBounds_toArray, List.set_cons_succ, List.set_cons_zero]; go_big_quiet_on))
            refine wpQuiet_nil ?_
            intro w3 hb3
            clear m0 m1 m2 m3 m4
            replace hbu := below_next hbu hb3
            replace hbr := below_next hbr hb3
            replace hp := hp.below hb3
            replace hn := hn.below hb3
            clear hb3
            obtain ⟨m0, m1, m2, m3, m4⟩ := (Hm1.out w3 hbu n (k, s) HMM.out).five
            obtain ⟨k0, k1, k2, k3, k4⟩ := Hat.out w3 hbu
            simp only at m0 m1 k0 k1
            go_wp2
            go_quiet (fail)
            go_wp2
            exact ⟨⟨n + 1, by omega, by go_num, by rw [Hft.out]; rfl, hp.drewN nq, hn.drewN nq, M.below_drew hbu nq, M.below_drew hbr nq⟩, by simp [intOf]; omega⟩
        · obtain rfl : n = q := by omega
          have hfin : ((L.take n).filter fun x => T.sd x != 1).length = r := by rw [← Hr.out.1, List.take_length]; exact Hr.out.2
          rw [hfin]
          go_wp2_with (first
            | ((with_reducible refine wp_load_box rfl _ rfl ?_); refine ⟨_, _, rfl, hn, ?_⟩)
            | ((with_reducible refine wp_load_box_g rfl _ rfl ?_); refine ⟨_, _, rfl, hn, ?_⟩)
            | fail)
          refine (HN.out _ (HT.out _ hbr)).mono ?_
          rintro e u3 ⟨v3, rfl, hown3, hb⟩
          replace hbr := below_next hbr hb
          clear hb
          obtain ⟨ao3, cap3, rfl⟩ : ∃ ao cap, v3 = .slice ao 0 cap := by
            rcases hown3.2 with ⟨e, _⟩ | ⟨g, cap, cur, e, _⟩
            · exact ⟨_, _, e⟩
            · exact ⟨_, _, e⟩
          clear hown3
          go_wp2_with (first
            | (go_at_call 16; refine (awake14_any _ (HT.out _ hbr)).mono ?_; rintro e u4 ⟨rfl, hb⟩; replace hbr := below_next hbr hb; clear hb))
          go_ret
          exact ⟨rfl, hbr⟩
    · have hL0 : L = [] := by cases L with | nil => rfl | cons x l => simp at hl
      subst hL0
      obtain ⟨a1, cap1, rfl⟩ : ∃ ao cap, v1 = .slice ao 0 cap := by
        rcases hown1.2 with ⟨e, _⟩ | ⟨g, cap, cur, e, _⟩
        · exact ⟨_, _, e⟩
        · exact ⟨_, _, e⟩
      clear hown1 hown2 hB hc2 hl
      simp only [List.filter_nil, List.length_nil]
      have H0 := Lib.hid (And.intro hn hb0)
      clear hp hn hb0
      go_wp2
      go_loopw [10, 11] (fun x i wr => i = .int .i64 0 ∧ x = .int .i64 0 ∧ PosAt wr bn (upd (upd c 79 (-1)) (79 + 1) (-1)) ∧ Below w.heap.size w wr) (fun _ _ _ => 0)
      case atStart => exact ⟨rfl, rfl, H0.out.1, H0.out.2⟩
      case round =>
        obtain ⟨rfl, rfl, hn, hbr⟩ := hrel
        go_wp2_with (first
          | ((with_reducible refine wp_load_box rfl _ rfl ?_); refine ⟨_, _, rfl, hn, ?_⟩)
          | ((with_reducible refine wp_load_box_g rfl _ rfl ?_); refine ⟨_, _, rfl, hn, ?_⟩)
          | fail)
        refine (HN.out _ (HT.out _ hbr)).mono ?_
        rintro e u3 ⟨v3, rfl, hown3, hb⟩
        replace hbr := below_next hbr hb
        clear hb
        obtain ⟨ao3, cap3, rfl⟩ : ∃ ao cap, v3 = .slice ao 0 cap := by
          rcases hown3.2 with ⟨e, _⟩ | ⟨g, cap, cur, e, _⟩
          · exact ⟨_, _, e⟩
          · exact ⟨_, _, e⟩
        clear hown3
        go_wp2_with (first
          | (go_at_call 16; refine (awake14_any _ (HT.out _ hbr)).mono ?_; rintro e u4 ⟨rfl, hb⟩; replace hbr := below_next hbr hb; clear hb))
        go_ret
        exact ⟨rfl, hbr⟩

set_option maxRecDepth 100000 in
set_option maxHeartbeats 8000000 in
theorem castleRights_1f (c : Nat → Int) (w : World) (hc : PosOk c) (hT : Tb w) (hct : c 78 = 1) :
    Calls Tryd.prog 4 #[.agg (posC c), .bool false] w fun e w' => e = .returned (.bool true) ∧ Below w.heap.size w w' := by
  obtain ⟨L, hL⟩ : ∃ L, T.clist c = L := ⟨_, rfl⟩
  have hb0 : Below w.heap.size w (w.alloc (.cells (posC c) 31)) := (Below.refl _ _).alloc (Nat.le_refl _) _
  have hp := PosAt.new w c
  have HT := Lib.hid (fun W (hb : Below w.heap.size w W) => tb_below hT hb)
  have HL := Lib.hid (fun W (hT : Tb W) => clist_val c L W hc hT hL)
  have hlost : T.lost c 0 = upd c 81 (-1) := by unfold T.lost; rw [hct]; rfl
  have hall : T.lostAll c = upd (upd c 81 (-1)) (81 + 1) (-1) := by unfold T.lostAll; rw [hct]; rfl
  have hQl : T.clist (upd c 81 (-1)) = L.filter fun x => T.sd x != 0 := by rw [← hlost, T.clist_lost c 0 hc (by decide), hL]
  have hNl : T.clist (upd (upd c 81 (-1)) (81 + 1) (-1)) = [] := by rw [← hall, T.clist_lostAll]
  have hcq : PosOk (upd c 81 (-1)) := posOk_upd hc _ _ (by decide)
  have hcn : PosOk (upd (upd c 81 (-1)) (81 + 1) (-1)) := posOk_upd (posOk_upd hc _ _ (by decide)) _ _ (by decide)
  have HQ := Lib.hid (fun W (hT : Tb W) => clist_val _ _ W hcq hT hQl)
  have HN := Lib.hid (fun W (hT : Tb W) => clist_val _ _ W hcn hT hNl)
  have hmem : ∀ x ∈ L, ∃ t d, T.Is c t d x.1 x.2 := fun x hx => T.clist_mem c x hc (by rw [hL]; exact hx)
  have Hmem := Lib.hid hmem
  have hL2 : L.length ≤ 2 := by rw [← hL]; exact T.clist_len c
  clear hlost hall hQl hNl hcq hcn hmem hT hL
  have h78 := hp.cell (i := 78) (by decide)
  rw [hct, show pk 78 = .u8 from rfl] at h78
  have hu := Tryd.underlying31
  have hinfo : (Tryd.prog.info? 31).map (·.size) = some (posL c).length := by rw [Tryd.infoPos]; simp [posL]
  go_enter Tryd.func4, Tryd.ntmps4
  go_wp2
  generalize hW0 : w.alloc (.cells (posC c) 31) = W0 at hp hb0 ⊢
  have hSd : PosAt W0.drew w.heap.size c ∧ Below w.heap.size w W0.drew := ⟨⟨hp.heap⟩, M.below_drew hb0 1⟩
  clear h78
  refine wp_region_held (S := fun w' => PosAt w' w.heap.size c ∧ Below w.heap.size w w') (by kernel_rfl) ?_
  change wpAnyH _ _ _ _ _ _ _ _ W0.drew
  clear hW0 hp hb0
  generalize W0.drew = W1 at hSd ⊢
  refine takeD 0 (some 23) (.agg (posC c)) (by kernel_rfl) (by kernel_rfl) (by kernel_rfl) (by kernel_rfl) (by kernel_rfl) (fun _ _ _ h => h) (yieldsIf_load_mid (by kernel_rfl) 31 (.tmp 2) (by kernel_rfl) w.heap.size 0 (by kernel_rfl) (posL c) _ (fun _ h => pos_range h.1.heap) hu rfl hinfo) hSd ?_
  simp only [Act.put, List.setIfInBounds_toArray, List.set_cons_succ, List.set_cons_zero]
  refine takeD 1 (some 24) (.agg (posC c)) (by kernel_rfl) (by kernel_rfl) (by kernel_rfl) (by kernel_rfl) (by kernel_rfl) (fun _ _ _ h => h) (yieldsIf_load_mid (by kernel_rfl) 31 (.tmp 2) (by kernel_rfl) w.heap.size 0 (by kernel_rfl) (posL c) _ (fun _ h => pos_range h.1.heap) hu rfl hinfo) hSd ?_
  simp only [Act.put, List.setIfInBounds_toArray, List.set_cons_succ, List.set_cons_zero]
  have hlt := hSd.1.lt
  have hS1 : PosAt (W1.alloc (.cells Tryd.zeroCells31 31)) w.heap.size c ∧ Below w.heap.size w (W1.alloc (.cells Tryd.zeroCells31 31)) := ⟨hSd.1.alloc _, hSd.2.alloc hSd.2.size _⟩
  have hS2 : PosAt ((W1.alloc (.cells Tryd.zeroCells31 31)).alloc (.cells Tryd.zeroCells31 31)) w.heap.size c ∧ Below w.heap.size w ((W1.alloc (.cells Tryd.zeroCells31 31)).alloc (.cells Tryd.zeroCells31 31)) := ⟨hS1.1.alloc _, hS1.2.alloc hS1.2.size _⟩
  have hA : RowAt ((W1.alloc (.cells Tryd.zeroCells31 31)).alloc (.cells Tryd.zeroCells31 31)) W1.heap.size 31 Tryd.zeroCells31 := (RowAt.new W1 _ _).alloc _
  have hB : RowAt ((W1.alloc (.cells Tryd.zeroCells31 31)).alloc (.cells Tryd.zeroCells31 31)) (W1.heap.size + 1) 31 Tryd.zeroCells31 := by
    have := RowAt.new (W1.alloc (.cells Tryd.zeroCells31 31)) Tryd.zeroCells31 31
    rwa [World.size_alloc] at this
  have hz2 : ((W1.alloc (.cells Tryd.zeroCells31 31)).alloc (.cells Tryd.zeroCells31 31)).heap.size = W1.heap.size + 2 := by simp
  have hz2 : W1.heap.size + 1 < ((W1.alloc (.cells Tryd.zeroCells31 31)).alloc (.cells Tryd.zeroCells31 31)).heap.size := by omega
  have HS1 := Lib.hid hS1
  have HS2 := Lib.hid hS2
  clear hS1 hS2
  refine wpAnyH_all (rs := [2, 3]) (by kernel_rfl) (by simp) (fun i hi => ?_)
  obtain rfl | rfl : i = 2 ∨ i = 3 := by simpa using hi
  · clear hi
    refine wpOp_at rfl rfl ?_
    unfold Oper.wp
    go_simp
    refine ⟨HS1.out, ?_⟩
    refine wpAnyH_all (rs := [3]) (by kernel_rfl) (by simp) (fun i hi => ?_)
    obtain rfl : i = 3 := by simpa using hi
    clear hi
    refine wpOp_at rfl rfl ?_
    unfold Oper.wp
    go_simp
    refine ⟨HS2.out, ?_⟩
    have hS2 := HS2.out
    clear HS1 HS2
    obtain ⟨bq, hbq⟩ : ∃ bq, W1.heap.size = bq := ⟨_, rfl⟩
    obtain ⟨bn, hbn⟩ : ∃ bn, W1.heap.size + 1 = bn := ⟨_, rfl⟩
    have hne : bq ≠ bn := by omega
    have hbq1 : w.heap.size < bq := by omega
    have hbn1 : w.heap.size < bn := by omega
    have hQ : RowAt ((W1.alloc (.cells Tryd.zeroCells31 31)).alloc (.cells Tryd.zeroCells31 31)) bq 31 Tryd.zeroCells31 := by rw [← hbq]; exact hA
    have hN : RowAt ((W1.alloc (.cells Tryd.zeroCells31 31)).alloc (.cells Tryd.zeroCells31 31)) bn 31 Tryd.zeroCells31 := by rw [← hbn]; exact hB
    rw [hbn, hbq]
    clear hbq hbn hA hB hz2
    revert hS2 hQ hN
    generalize (W1.alloc (.cells Tryd.zeroCells31 31)).alloc (.cells Tryd.zeroCells31 31) = W2
    intro hS2 hQ hN
    refine takeOne 4 (by kernel_rfl) (by kernel_rfl) (by kernel_rfl) ?_
    refine wp_store_row 31 (.tmp 6) (.tmp 23) (by kernel_rfl) bq (posC c) (by kernel_rfl) (by kernel_rfl) _ _ hQ.heap (posC_info _) (by rw [zero31_sizeC, posC_size]) (posC_one _) ?_
    have hV := put_setRow W2 bq (posC c)
    have hq : PosAt (W2.setRow bq (posC c)) bq c := ⟨setRow_heap _ _ _ _ _ _ hQ.heap⟩
    have hS3 : PosAt (W2.setRow bq (posC c)) w.heap.size c ∧ Below w.heap.size w (W2.setRow bq (posC c)) := ⟨hV.pos hS2.1 (by omega), hV.below hS2.2 (by omega)⟩
    have hN3 := hV.row hN (Ne.symm hne)
    refine ⟨hS3, ?_⟩
    have hall := And.intro hS3 (And.intro hq hN3)
    clear hV hS2 hQ hN hS3 hq hN3
    revert hall
    generalize W2.setRow bq (posC c) = W3
    rintro ⟨hS3, hq, hN3⟩
    refine takeOne 5 (by kernel_rfl) (by kernel_rfl) (by kernel_rfl) ?_
    refine wp_store_row 31 (.tmp 7) (.tmp 24) (by kernel_rfl) bn (posC c) (by kernel_rfl) (by kernel_rfl) _ _ hN3.heap (posC_info _) (by rw [zero31_sizeC, posC_size]) (posC_one _) ?_
    have hV := put_setRow W3 bn (posC c)
    have hn : PosAt (W3.setRow bn (posC c)) bn c := ⟨setRow_heap _ _ _ _ _ _ hN3.heap⟩
    have hS4 : PosAt (W3.setRow bn (posC c)) w.heap.size c ∧ Below w.heap.size w (W3.setRow bn (posC c)) := ⟨hV.pos hS3.1 (by omega), hV.below hS3.2 (by omega)⟩
    replace hq := hV.pos hq hne
    refine ⟨hS4, ?_⟩
    have hall := And.intro hS4 (And.intro hq hn)
    clear hV hS3 hN3 hS4 hq hn
    revert hall
    generalize W3.setRow bn (posC c) = W4
    rintro ⟨⟨hp, hb0⟩, hq, hn⟩
    refine wpAnyH_done (by kernel_rfl) ?_ _
    have h78 := hp.cell (i := 78) (by decide)
    rw [hct, show pk 78 = .u8 from rfl] at h78
    have h78q := hq.cell (i := 78) (by decide)
    rw [hct, show pk 78 = .u8 from rfl] at h78q
    go_wp2_with (first
      | ((with_reducible refine wp_store_cell rfl _ _ _ rfl ?_); refine ⟨_, _, _, _, _, rfl, rfl, hq, (by decide), rfl, Tryd.size_i8, ?_⟩; intro V hV hq2; replace hp := hV.pos hp (by omega); replace hn := hV.pos hn (Ne.symm hne); replace hb0 := hV.below hb0 (by omega); clear hV hq; have hq := hq2; clear hq2; have h78 := hp.cell (i := 78) (by decide); rw [hct, show pk 78 = .u8 from rfl] at h78)
      | ((with_reducible refine wp_store_two rfl _ _ _ rfl ?_); refine ⟨_, _, _, _, _, _, rfl, rfl, hn, (by decide), rfl, rfl, Tryd.size_2i8, ?_⟩; intro V hV hn2; replace hp := hV.pos hp (by omega); replace hq := hV.pos hq hne; replace hb0 := hV.below hb0 (by omega); clear hV hn; have hn := hn2; clear hn2; have h78 := hp.cell (i := 78) (by decide); rw [hct, show pk 78 = .u8 from rfl] at h78)
      | ((with_reducible refine wp_load_box rfl _ rfl ?_); refine ⟨_, _, rfl, hp, ?_⟩)
      | fail)
    refine (HL.out _ (HT.out _ hb0)).mono ?_
    rintro e u1 ⟨v1, rfl, hown1, hb⟩
    replace hp := hp.below hb
    replace hq := hq.below hb
    replace hn := hn.below hb
    replace hb0 := below_next hb0 hb
    clear hb
    go_wp2_with (first
      | ((with_reducible refine wp_load_box rfl _ rfl ?_); refine ⟨_, _, rfl, hq, ?_⟩)
      | fail)
    refine (HQ.out _ (HT.out _ hb0)).mono ?_
    rintro e u2 ⟨v2, rfl, hown2, hb⟩
    replace hp := hp.below hb
    replace hn := hn.below hb
    replace hown1 := owns_below hown1 hb
    replace hb0 := below_next hb0 hb
    clear hb hq
    obtain ⟨a2, cap2, rfl, hc2, hm2, hB⟩ := owns_row5 hown2
    by_cases hl : 0 < L.length
    · obtain ⟨b1, cap, rfl, hbb, hbs, hnc, hcm, hcells⟩ := owns_openN hown1 hl
      have Hm1 := Lib.hid (fun W (hb : Below u2.heap.size u2 W) i x (hx : L[i]? = some x) => (T.movAt hcells i x hx).below hb)
      have HB := Lib.hid (fun (hb0 : 0 < (L.filter fun x => T.sd x != 0).length) => (hB hb0).imp fun b2 h => (show a2 = some ⟨b2, 0, none⟩ ∧ b2 < u2.heap.size ∧ ∀ W (_ : Below u2.heap.size u2 W) i x (_ : (L.filter fun x => T.sd x != 0)[i]? = some x), T.MovAt W b2 (i * 5) x from ⟨h.1, h.2.2.1, fun W hb i x hx => (T.movAt h.2.2.2 i x hx).below hb⟩))
      clear hown1 hown2 hcells hbb hB
      unfold maxLen at hcm hm2
      obtain ⟨q, hqq⟩ : ∃ q, L.length = q := ⟨_, rfl⟩
      obtain ⟨r, hr⟩ : ∃ r, (L.filter fun x => T.sd x != 0).length = r := ⟨_, rfl⟩
      have hrq : r ≤ q := by rw [← hr, ← hqq]; exact List.length_filter_le _ _
      have Hr := Lib.hid (And.intro hqq hr)
      rw [hqq] at hl hnc hL2 ⊢
      rw [hr] at hc2 HB ⊢
      clear hqq hr
      have H0 := Lib.hid (And.intro hp (And.intro hn hb0))
      clear hp hn hb0
      go_wp2
      go_loopw [10, 11] (fun x i wr => ∃ n : Nat, n ≤ q ∧ i = .int .i64 (n : Int) ∧ x = .int .i64 ((((L.take n).filter fun x => T.sd x != 0).length : Nat) : Int) ∧ PosAt wr w.heap.size c ∧ PosAt wr bn (upd (upd c 81 (-1)) (81 + 1) (-1)) ∧ Below u2.heap.size u2 wr ∧ Below w.heap.size w wr) (fun _ i _ => q - (intOf i).toNat)
      case atStart => exact ⟨0, by omega, rfl, rfl, H0.out.1, H0.out.2.1, Below.refl _ _, H0.out.2.2⟩
      case round =>
        obtain ⟨n, hn', rfl, rfl, hp, hn, hbu, hbr⟩ := hrel
        by_cases hlt : n < q
        · obtain ⟨⟨k, s⟩, hm⟩ : ∃ m, L[n]? = some m := ⟨_, List.getElem?_eq_getElem (by rw [Hr.out.1]; exact hlt)⟩
          obtain ⟨m0, m1, m2, m3, m4⟩ := (Hm1.out wr hbu n (k, s) hm).five
          simp only at m0 m1
          obtain ⟨t', d', his⟩ := Hmem.out (k, s) (List.mem_of_getElem? hm)
          simp only at his
          have hd2 := his.d2
          have hk64 := his.khome
          have hs64 := his.shome
          have ht2 := his.t2
          have hsd : T.sd (k, s) = d' := by
            unfold T.sd
            by_cases hlk : k < s
            · rw [if_pos hlk, his.dir.1 hlk]
            · rw [if_neg hlk]; have h5 : ¬ d' = 0 := fun e => hlk (his.dir.2 e); omega
          have hft := T.filter_take (fun x => T.sd x != 0) L n (k, s) hm
          have hfg := T.filter_get (fun x => T.sd x != 0) L n (k, s) hm
          have hfl : ((L.take n).filter fun x => T.sd x != 0).length ≤ n := Nat.le_trans (List.length_filter_le _ _) (by rw [List.length_take]; omega)
          rw [hsd] at hft hfg
          have HS := Lib.hid (fun W => cside_eq c (k : Int) (s : Int) 0 0 true (d' : Int) W hc (by omega) (by omega) (T.side_is his))
          have hb1 : b1 < wr.heap.size := by have := hbu.size; omega
          have hlp := hp.lt
          generalize ((L.take n).filter fun x => T.sd x != 0).length = y at hft hfg hfl ⊢
          have Hft := Lib.hid hft
          have Hfg := Lib.hid hfg
          have HMM := Lib.hid hm
          clear hft hfg his hsd hk64 hs64 ht2 hm
          rcases (show d' = 0 ∨ d' = 1 by omega) with rfl | rfl
          · go_wp2_with fail
            refine region_below (by kernel_rfl) (by kernel_rfl) ?_
            repeat (first
              | go_big_quiet_step (first
                | (go_at_call 17; exact quiet_below (HS.out _)))
              | (go_big_quiet_want; refine quiet_load_box _ rfl ⟨_, _, rfl, hp, ?_⟩; simp only [Act.put, List.setIfInBounds_toArray, List.set_cons_succ, List.set_cons_zero]; go_big_quiet_on))
            refine wpQuiet_nil ?_
            intro w3 hb3
            go_wp2
            exact ⟨⟨n + 1, by omega, by go_num, by rw [Hft.out]; rfl, hp.below hb3, hn.below hb3, below_next hbu hb3, below_next hbr hb3⟩, by simp [intOf]; omega⟩
          · have hgt := Hfg.out (by decide)
            have hy : y < r := by rw [← Hr.out.2]; exact (List.getElem?_eq_some_iff.1 hgt).1
            obtain ⟨b2, rfl, hb2, hat⟩ := HB.out (by omega)
            have Hat := Lib.hid (fun W hb => (hat W hb y (k, s) hgt).five)
            clear hat hgt
            go_wp2_with fail
            refine region_below (by kernel_rfl) (by kernel_rfl) ?_
            repeat (first
              | go_big_quiet_step (first
                | (go_at_call 17; exact quiet_below (HS.out _)))
              | (go_big_quiet_want; refine quiet_load_box _ rfl ⟨_, _, rfl, hp, ?_⟩; simp only [Act.put, List.setIfInBounds_toArray, List.set_cons_succ, List.set_cons_zero]; go_big_quiet_on))
            refine wpQuiet_nil ?_
            intro w3 hb3
            clear m0 m1 m2 m3 m4
            replace hbu := below_next hbu hb3
            replace hbr := below_next hbr hb3
            replace hp := hp.below hb3
            replace hn := hn.below hb3
            clear hb3
            obtain ⟨m0, m1, m2, m3, m4⟩ := (Hm1.out w3 hbu n (k, s) HMM.out).five
            obtain ⟨k0, k1, k2, k3, k4⟩ := Hat.out w3 hbu
            simp only at m0 m1 k0 k1
            go_wp2
            go_quiet (fail)
            go_wp2
            exact ⟨⟨n + 1, by omega, by go_num, by rw [Hft.out]; rfl, hp.drewN nq, hn.drewN nq, M.below_drew hbu nq, M.below_drew hbr nq⟩, by simp [intOf]; omega⟩
        · obtain rfl : n = q := by omega
          have hfin : ((L.take n).filter fun x => T.sd x != 0).length = r := by rw [← Hr.out.1, List.take_length]; exact Hr.out.2
          rw [hfin]
          go_wp2_with (first
            | ((with_reducible refine wp_load_box rfl _ rfl ?_); refine ⟨_, _, rfl, hn, ?_⟩)
            | ((with_reducible refine wp_load_box_g rfl _ rfl ?_); refine ⟨_, _, rfl, hn, ?_⟩)
            | fail)
          refine (HN.out _ (HT.out _ hbr)).mono ?_
          rintro e u3 ⟨v3, rfl, hown3, hb⟩
          replace hbr := below_next hbr hb
          clear hb
          obtain ⟨ao3, cap3, rfl⟩ : ∃ ao cap, v3 = .slice ao 0 cap := by
            rcases hown3.2 with ⟨e, _⟩ | ⟨g, cap, cur, e, _⟩
            · exact ⟨_, _, e⟩
            · exact ⟨_, _, e⟩
          clear hown3
          go_wp2_with (first
            | (go_at_call 16; refine (awake14_any _ (HT.out _ hbr)).mono ?_; rintro e u4 ⟨rfl, hb⟩; replace hbr := below_next hbr hb; clear hb))
          go_ret
          exact ⟨rfl, hbr⟩
    · have hL0 : L = [] := by cases L with | nil => rfl | cons x l => simp at hl
      subst hL0
      obtain ⟨a1, cap1, rfl⟩ : ∃ ao cap, v1 = .slice ao 0 cap := by
        rcases hown1.2 with ⟨e, _⟩ | ⟨g, cap, cur, e, _⟩
        · exact ⟨_, _, e⟩
        · exact ⟨_, _, e⟩
      clear hown1 hown2 hB hc2 hl
      simp only [List.filter_nil, List.length_nil]
      have H0 := Lib.hid (And.intro hn hb0)
      clear hp hn hb0
      go_wp2
      go_loopw [10, 11] (fun x i wr => i = .int .i64 0 ∧ x = .int .i64 0 ∧ PosAt wr bn (upd (upd c 81 (-1)) (81 + 1) (-1)) ∧ Below w.heap.size w wr) (fun _ _ _ => 0)
      case atStart => exact ⟨rfl, rfl, H0.out.1, H0.out.2⟩
      case round =>
        obtain ⟨rfl, rfl, hn, hbr⟩ := hrel
        go_wp2_with (first
          | ((with_reducible refine wp_load_box rfl _ rfl ?_); refine ⟨_, _, rfl, hn, ?_⟩)
          | ((with_reducible refine wp_load_box_g rfl _ rfl ?_); refine ⟨_, _, rfl, hn, ?_⟩)
          | fail)
        refine (HN.out _ (HT.out _ hbr)).mono ?_
        rintro e u3 ⟨v3, rfl, hown3, hb⟩
        replace hbr := below_next hbr hb
        clear hb
        obtain ⟨ao3, cap3, rfl⟩ : ∃ ao cap, v3 = .slice ao 0 cap := by
          rcases hown3.2 with ⟨e, _⟩ | ⟨g, cap, cur, e, _⟩
          · exact ⟨_, _, e⟩
          · exact ⟨_, _, e⟩
        clear hown3
        go_wp2_with (first
          | (go_at_call 16; refine (awake14_any _ (HT.out _ hbr)).mono ?_; rintro e u4 ⟨rfl, hb⟩; replace hbr := below_next hbr hb; clear hb))
        go_ret
        exact ⟨rfl, hbr⟩

  · clear hi
    refine wpOp_at rfl rfl ?_
    unfold Oper.wp
    go_simp
    refine ⟨HS1.out, ?_⟩
    refine wpAnyH_all (rs := [2]) (by kernel_rfl) (by simp) (fun i hi => ?_)
    obtain rfl : i = 2 := by simpa using hi
    clear hi
    refine wpOp_at rfl rfl ?_
    unfold Oper.wp
    go_simp
    refine ⟨HS2.out, ?_⟩
    have hS2 := HS2.out
    clear HS1 HS2
    obtain ⟨bq, hbq⟩ : ∃ bq, W1.heap.size + 1 = bq := ⟨_, rfl⟩
    obtain ⟨bn, hbn⟩ : ∃ bn, W1.heap.size = bn := ⟨_, rfl⟩
    have hne : bq ≠ bn := by omega
    have hbq1 : w.heap.size < bq := by omega
    have hbn1 : w.heap.size < bn := by omega
    have hQ : RowAt ((W1.alloc (.cells Tryd.zeroCells31 31)).alloc (.cells Tryd.zeroCells31 31)) bq 31 Tryd.zeroCells31 := by rw [← hbq]; exact hB
    have hN : RowAt ((W1.alloc (.cells Tryd.zeroCells31 31)).alloc (.cells Tryd.zeroCells31 31)) bn 31 Tryd.zeroCells31 := by rw [← hbn]; exact hA
    rw [hbq, hbn]
    clear hbq hbn hA hB hz2
    revert hS2 hQ hN
    generalize (W1.alloc (.cells Tryd.zeroCells31 31)).alloc (.cells Tryd.zeroCells31 31) = W2
    intro hS2 hQ hN
    refine takeOne 4 (by kernel_rfl) (by kernel_rfl) (by kernel_rfl) ?_
    refine wp_store_row 31 (.tmp 6) (.tmp 23) (by kernel_rfl) bq (posC c) (by kernel_rfl) (by kernel_rfl) _ _ hQ.heap (posC_info _) (by rw [zero31_sizeC, posC_size]) (posC_one _) ?_
    have hV := put_setRow W2 bq (posC c)
    have hq : PosAt (W2.setRow bq (posC c)) bq c := ⟨setRow_heap _ _ _ _ _ _ hQ.heap⟩
    have hS3 : PosAt (W2.setRow bq (posC c)) w.heap.size c ∧ Below w.heap.size w (W2.setRow bq (posC c)) := ⟨hV.pos hS2.1 (by omega), hV.below hS2.2 (by omega)⟩
    have hN3 := hV.row hN (Ne.symm hne)
    refine ⟨hS3, ?_⟩
    have hall := And.intro hS3 (And.intro hq hN3)
    clear hV hS2 hQ hN hS3 hq hN3
    revert hall
    generalize W2.setRow bq (posC c) = W3
    rintro ⟨hS3, hq, hN3⟩
    refine takeOne 5 (by kernel_rfl) (by kernel_rfl) (by kernel_rfl) ?_
    refine wp_store_row 31 (.tmp 7) (.tmp 24) (by kernel_rfl) bn (posC c) (by kernel_rfl) (by kernel_rfl) _ _ hN3.heap (posC_info _) (by rw [zero31_sizeC, posC_size]) (posC_one _) ?_
    have hV := put_setRow W3 bn (posC c)
    have hn : PosAt (W3.setRow bn (posC c)) bn c := ⟨setRow_heap _ _ _ _ _ _ hN3.heap⟩
    have hS4 : PosAt (W3.setRow bn (posC c)) w.heap.size c ∧ Below w.heap.size w (W3.setRow bn (posC c)) := ⟨hV.pos hS3.1 (by omega), hV.below hS3.2 (by omega)⟩
    replace hq := hV.pos hq hne
    refine ⟨hS4, ?_⟩
    have hall := And.intro hS4 (And.intro hq hn)
    clear hV hS3 hN3 hS4 hq hn
    revert hall
    generalize W3.setRow bn (posC c) = W4
    rintro ⟨⟨hp, hb0⟩, hq, hn⟩
    refine wpAnyH_done (by kernel_rfl) ?_ _
    have h78 := hp.cell (i := 78) (by decide)
    rw [hct, show pk 78 = .u8 from rfl] at h78
    have h78q := hq.cell (i := 78) (by decide)
    rw [hct, show pk 78 = .u8 from rfl] at h78q
    go_wp2_with (first
      | ((with_reducible refine wp_store_cell rfl _ _ _ rfl ?_); refine ⟨_, _, _, _, _, rfl, rfl, hq, (by decide), rfl, Tryd.size_i8, ?_⟩; intro V hV hq2; replace hp := hV.pos hp (by omega); replace hn := hV.pos hn (Ne.symm hne); replace hb0 := hV.below hb0 (by omega); clear hV hq; have hq := hq2; clear hq2; have h78 := hp.cell (i := 78) (by decide); rw [hct, show pk 78 = .u8 from rfl] at h78)
      | ((with_reducible refine wp_store_two rfl _ _ _ rfl ?_); refine ⟨_, _, _, _, _, _, rfl, rfl, hn, (by decide), rfl, rfl, Tryd.size_2i8, ?_⟩; intro V hV hn2; replace hp := hV.pos hp (by omega); replace hq := hV.pos hq hne; replace hb0 := hV.below hb0 (by omega); clear hV hn; have hn := hn2; clear hn2; have h78 := hp.cell (i := 78) (by decide); rw [hct, show pk 78 = .u8 from rfl] at h78)
      | ((with_reducible refine wp_load_box rfl _ rfl ?_); refine ⟨_, _, rfl, hp, ?_⟩)
      | fail)
    refine (HL.out _ (HT.out _ hb0)).mono ?_
    rintro e u1 ⟨v1, rfl, hown1, hb⟩
    replace hp := hp.below hb
    replace hq := hq.below hb
    replace hn := hn.below hb
    replace hb0 := below_next hb0 hb
    clear hb
    go_wp2_with (first
      | ((with_reducible refine wp_load_box rfl _ rfl ?_); refine ⟨_, _, rfl, hq, ?_⟩)
      | fail)
    refine (HQ.out _ (HT.out _ hb0)).mono ?_
    rintro e u2 ⟨v2, rfl, hown2, hb⟩
    replace hp := hp.below hb
    replace hn := hn.below hb
    replace hown1 := owns_below hown1 hb
    replace hb0 := below_next hb0 hb
    clear hb hq
    obtain ⟨a2, cap2, rfl, hc2, hm2, hB⟩ := owns_row5 hown2
    by_cases hl : 0 < L.length
    · obtain ⟨b1, cap, rfl, hbb, hbs, hnc, hcm, hcells⟩ := owns_openN hown1 hl
      have Hm1 := Lib.hid (fun W (hb : Below u2.heap.size u2 W) i x (hx : L[i]? = some x) => (T.movAt hcells i x hx).below hb)
      have HB := Lib.hid (fun (hb0 : 0 < (L.filter fun x => T.sd x != 0).length) => (hB hb0).imp fun b2 h => (show a2 = some ⟨b2, 0, none⟩ ∧ b2 < u2.heap.size ∧ ∀ W (_ : Below u2.heap.size u2 W) i x (_ : (L.filter fun x => T.sd x != 0)[i]? = some x), T.MovAt W b2 (i * 5) x from ⟨h.1, h.2.2.1, fun W hb i x hx => (T.movAt h.2.2.2 i x hx).below hb⟩))
      clear hown1 hown2 hcells hbb hB
      unfold maxLen at hcm hm2
      obtain ⟨q, hqq⟩ : ∃ q, L.length = q := ⟨_, rfl⟩
      obtain ⟨r, hr⟩ : ∃ r, (L.filter fun x => T.sd x != 0).length = r := ⟨_, rfl⟩
      have hrq : r ≤ q := by rw [← hr, ← hqq]; exact List.length_filter_le _ _
      have Hr := Lib.hid (And.intro hqq hr)
      rw [hqq] at hl hnc hL2 ⊢
      rw [hr] at hc2 HB ⊢
      clear hqq hr
      have H0 := Lib.hid (And.intro hp (And.intro hn hb0))
      clear hp hn hb0
      go_wp2
      go_loopw [10, 11] (fun x i wr => ∃ n : Nat, n ≤ q ∧ i = .int .i64 (n : Int) ∧ x = .int .i64 ((((L.take n).filter fun x => T.sd x != 0).length : Nat) : Int) ∧ PosAt wr w.heap.size c ∧ PosAt wr bn (upd (upd c 81 (-1)) (81 + 1) (-1)) ∧ Below u2.heap.size u2 wr ∧ Below w.heap.size w wr) (fun _ i _ => q - (intOf i).toNat)
      case atStart => exact ⟨0, by omega, rfl, rfl, H0.out.1, H0.out.2.1, Below.refl _ _, H0.out.2.2⟩
      case round =>
        obtain ⟨n, hn', rfl, rfl, hp, hn, hbu, hbr⟩ := hrel
        by_cases hlt : n < q
        · obtain ⟨⟨k, s⟩, hm⟩ : ∃ m, L[n]? = some m := ⟨_, List.getElem?_eq_getElem (by rw [Hr.out.1]; exact hlt)⟩
          obtain ⟨m0, m1, m2, m3, m4⟩ := (Hm1.out wr hbu n (k, s) hm).five
          simp only at m0 m1
          obtain ⟨t', d', his⟩ := Hmem.out (k, s) (List.mem_of_getElem? hm)
          simp only at his
          have hd2 := his.d2
          have hk64 := his.khome
          have hs64 := his.shome
          have ht2 := his.t2
          have hsd : T.sd (k, s) = d' := by
            unfold T.sd
            by_cases hlk : k < s
            · rw [if_pos hlk, his.dir.1 hlk]
            · rw [if_neg hlk]; have h5 : ¬ d' = 0 := fun e => hlk (his.dir.2 e); omega
          have hft := T.filter_take (fun x => T.sd x != 0) L n (k, s) hm
          have hfg := T.filter_get (fun x => T.sd x != 0) L n (k, s) hm
          have hfl : ((L.take n).filter fun x => T.sd x != 0).length ≤ n := Nat.le_trans (List.length_filter_le _ _) (by rw [List.length_take]; omega)
          rw [hsd] at hft hfg
          have HS := Lib.hid (fun W => cside_eq c (k : Int) (s : Int) 0 0 true (d' : Int) W hc (by omega) (by omega) (T.side_is his))
          have hb1 : b1 < wr.heap.size := by have := hbu.size; omega
          have hlp := hp.lt
          generalize ((L.take n).filter fun x => T.sd x != 0).length = y at hft hfg hfl ⊢
          have Hft := Lib.hid hft
          have Hfg := Lib.hid hfg
          have HMM := Lib.hid hm
          clear hft hfg his hsd hk64 hs64 ht2 hm
          rcases (show d' = 0 ∨ d' = 1 by omega) with rfl | rfl
          · go_wp2_with fail
            refine region_below (by kernel_rfl) (by kernel_rfl) ?_
            repeat (first
              | go_big_quiet_step (first
                | (go_at_call 17; exact quiet_below (HS.out _)))
              | (go_big_quiet_want; refine quiet_load_box _ rfl ⟨_, _, rfl, hp, ?_⟩; simp only [Act.put, List.setIfInBounds_toArray, List.set_cons_succ, List.set_cons_zero]; go_big_quiet_on))
            refine wpQuiet_nil ?_
            intro w3 hb3
            go_wp2
            exact ⟨⟨n + 1, by omega, by go_num, by rw [Hft.out]; rfl, hp.below hb3, hn.below hb3, below_next hbu hb3, below_next hbr hb3⟩, by simp [intOf]; omega⟩
          · have hgt := Hfg.out (by decide)
            have hy : y < r := by rw [← Hr.out.2]; exact (List.getElem?_eq_some_iff.1 hgt).1
            obtain ⟨b2, rfl, hb2, hat⟩ := HB.out (by omega)
            have Hat := Lib.hid (fun W hb => (hat W hb y (k, s) hgt).five)
            clear hat hgt
            go_wp2_with fail
            refine region_below (by kernel_rfl) (by kernel_rfl) ?_
            repeat (first
              | go_big_quiet_step (first
                | (go_at_call 17; exact quiet_below (HS.out _)))
              | (go_big_quiet_want; refine quiet_load_box _ rfl ⟨_, _, rfl, hp, ?_⟩; simp only [Act.put, List.setIfInBounds_toArray, List.set_cons_succ, List.set_cons_zero]; go_big_quiet_on))
            refine wpQuiet_nil ?_
            intro w3 hb3
            clear m0 m1 m2 m3 m4
            replace hbu := below_next hbu hb3
            replace hbr := below_next hbr hb3
            replace hp := hp.below hb3
            replace hn := hn.below hb3
            clear hb3
            obtain ⟨m0, m1, m2, m3, m4⟩ := (Hm1.out w3 hbu n (k, s) HMM.out).five
            obtain ⟨k0, k1, k2, k3, k4⟩ := Hat.out w3 hbu
            simp only at m0 m1 k0 k1
            go_wp2
            go_quiet (fail)
            go_wp2
            exact ⟨⟨n + 1, by omega, by go_num, by rw [Hft.out]; rfl, hp.drewN nq, hn.drewN nq, M.below_drew hbu nq, M.below_drew hbr nq⟩, by simp [intOf]; omega⟩
        · obtain rfl : n = q := by omega
          have hfin : ((L.take n).filter fun x => T.sd x != 0).length = r := by rw [← Hr.out.1, List.take_length]; exact Hr.out.2
          rw [hfin]
          go_wp2_with (first
            | ((with_reducible refine wp_load_box rfl _ rfl ?_); refine ⟨_, _, rfl, hn, ?_⟩)
            | ((with_reducible refine wp_load_box_g rfl _ rfl ?_); refine ⟨_, _, rfl, hn, ?_⟩)
            | fail)
          refine (HN.out _ (HT.out _ hbr)).mono ?_
          rintro e u3 ⟨v3, rfl, hown3, hb⟩
          replace hbr := below_next hbr hb
          clear hb
          obtain ⟨ao3, cap3, rfl⟩ : ∃ ao cap, v3 = .slice ao 0 cap := by
            rcases hown3.2 with ⟨e, _⟩ | ⟨g, cap, cur, e, _⟩
            · exact ⟨_, _, e⟩
            · exact ⟨_, _, e⟩
          clear hown3
          go_wp2_with (first
            | (go_at_call 16; refine (awake14_any _ (HT.out _ hbr)).mono ?_; rintro e u4 ⟨rfl, hb⟩; replace hbr := below_next hbr hb; clear hb))
          go_ret
          exact ⟨rfl, hbr⟩
    · have hL0 : L = [] := by cases L with | nil => rfl | cons x l => simp at hl
      subst hL0
      obtain ⟨a1, cap1, rfl⟩ : ∃ ao cap, v1 = .slice ao 0 cap := by
        rcases hown1.2 with ⟨e, _⟩ | ⟨g, cap, cur, e, _⟩
        · exact ⟨_, _, e⟩
        · exact ⟨_, _, e⟩
      clear hown1 hown2 hB hc2 hl
      simp only [List.filter_nil, List.length_nil]
      have H0 := Lib.hid (And.intro hn hb0)
      clear hp hn hb0
      go_wp2
      go_loopw [10, 11] (fun x i wr => i = .int .i64 0 ∧ x = .int .i64 0 ∧ PosAt wr bn (upd (upd c 81 (-1)) (81 + 1) (-1)) ∧ Below w.heap.size w wr) (fun _ _ _ => 0)
      case atStart => exact ⟨rfl, rfl, H0.out.1, H0.out.2⟩
      case round =>
        obtain ⟨rfl, rfl, hn, hbr⟩ := hrel
        go_wp2_with (first
          | ((with_reducible refine wp_load_box rfl _ rfl ?_); refine ⟨_, _, rfl, hn, ?_⟩)
          | ((with_reducible refine wp_load_box_g rfl _ rfl ?_); refine ⟨_, _, rfl, hn, ?_⟩)
          | fail)
        refine (HN.out _ (HT.out _ hbr)).mono ?_
        rintro e u3 ⟨v3, rfl, hown3, hb⟩
        replace hbr := below_next hbr hb
        clear hb
        obtain ⟨ao3, cap3, rfl⟩ : ∃ ao cap, v3 = .slice ao 0 cap := by
          rcases hown3.2 with ⟨e, _⟩ | ⟨g, cap, cur, e, _⟩
          · exact ⟨_, _, e⟩
          · exact ⟨_, _, e⟩
        clear hown3
        go_wp2_with (first
          | (go_at_call 16; refine (awake14_any _ (HT.out _ hbr)).mono ?_; rintro e u4 ⟨rfl, hb⟩; replace hbr := below_next hbr hb; clear hb))
        go_ret
        exact ⟨rfl, hbr⟩

set_option maxRecDepth 100000 in
set_option maxHeartbeats 8000000 in
theorem castleRights_1t (c : Nat → Int) (w : World) (hc : PosOk c) (hT : Tb w) (hct : c 78 = 1) :
    Calls Tryd.prog 4 #[.agg (posC c), .bool true] w fun e w' => e = .returned (.bool true) ∧ Below w.heap.size w w' := by
  obtain ⟨L, hL⟩ : ∃ L, T.clist c = L := ⟨_, rfl⟩
  have hb0 : Below w.heap.size w (w.alloc (.cells (posC c) 31)) := (Below.refl _ _).alloc (Nat.le_refl _) _
  have hp := PosAt.new w c
  have HT := Lib.hid (fun W (hb : Below w.heap.size w W) => tb_below hT hb)
  have HL := Lib.hid (fun W (hT : Tb W) => clist_val c L W hc hT hL)
  have hlost : T.lost c 1 = upd c 82 (-1) := by unfold T.lost; rw [hct]; rfl
  have hall : T.lostAll c = upd (upd c 81 (-1)) (81 + 1) (-1) := by unfold T.lostAll; rw [hct]; rfl
  have hQl : T.clist (upd c 82 (-1)) = L.filter fun x => T.sd x != 1 := by rw [← hlost, T.clist_lost c 1 hc (by decide), hL]
  have hNl : T.clist (upd (upd c 81 (-1)) (81 + 1) (-1)) = [] := by rw [← hall, T.clist_lostAll]
  have hcq : PosOk (upd c 82 (-1)) := posOk_upd hc _ _ (by decide)
  have hcn : PosOk (upd (upd c 81 (-1)) (81 + 1) (-1)) := posOk_upd (posOk_upd hc _ _ (by decide)) _ _ (by decide)
  have HQ := Lib.hid (fun W (hT : Tb W) => clist_val _ _ W hcq hT hQl)
  have HN := Lib.hid (fun W (hT : Tb W) => clist_val _ _ W hcn hT hNl)
  have hmem : ∀ x ∈ L, ∃ t d, T.Is c t d x.1 x.2 := fun x hx => T.clist_mem c x hc (by rw [hL]; exact hx)
  have Hmem := Lib.hid hmem
  have hL2 : L.length ≤ 2 := by rw [← hL]; exact T.clist_len c
  clear hlost hall hQl hNl hcq hcn hmem hT hL
  have h78 := hp.cell (i := 78) (by decide)
  rw [hct, show pk 78 = .u8 from rfl] at h78
  have hu := Tryd.underlying31
  have hinfo : (Tryd.prog.info? 31).map (·.size) = some (posL c).length := by rw [Tryd.infoPos]; simp [posL]
  go_enter Tryd.func4, Tryd.ntmps4
  go_wp2
  generalize hW0 : w.alloc (.cells (posC c) 31) = W0 at hp hb0 ⊢
  have hSd : PosAt W0.drew w.heap.size c ∧ Below w.heap.size w W0.drew := ⟨⟨hp.heap⟩, M.below_drew hb0 1⟩
  clear h78
  refine wp_region_held (S := fun w' => PosAt w' w.heap.size c ∧ Below w.heap.size w w') (by kernel_rfl) ?_
  change wpAnyH _ _ _ _ _ _ _ _ W0.drew
  clear hW0 hp hb0
  generalize W0.drew = W1 at hSd ⊢
  refine takeD 0 (some 23) (.agg (posC c)) (by kernel_rfl) (by kernel_rfl) (by kernel_rfl) (by kernel_rfl) (by kernel_rfl) (fun _ _ _ h => h) (yieldsIf_load_mid (by kernel_rfl) 31 (.tmp 2) (by kernel_rfl) w.heap.size 0 (by kernel_rfl) (posL c) _ (fun _ h => pos_range h.1.heap) hu rfl hinfo) hSd ?_
  simp only [Act.put, List.setIfInBounds_toArray, List.set_cons_succ, List.set_cons_zero]
  refine takeD 1 (some 24) (.agg (posC c)) (by kernel_rfl) (by kernel_rfl) (by kernel_rfl) (by kernel_rfl) (by kernel_rfl) (fun _ _ _ h => h) (yieldsIf_load_mid (by kernel_rfl) 31 (.tmp 2) (by kernel_rfl) w.heap.size 0 (by kernel_rfl) (posL c) _ (fun _ h => pos_range h.1.heap) hu rfl hinfo) hSd ?_
  simp only [Act.put, List.setIfInBounds_toArray, List.set_cons_succ, List.set_cons_zero]
  have hlt := hSd.1.lt
  have hS1 : PosAt (W1.alloc (.cells Tryd.zeroCells31 31)) w.heap.size c ∧ Below w.heap.size w (W1.alloc (.cells Tryd.zeroCells31 31)) := ⟨hSd.1.alloc _, hSd.2.alloc hSd.2.size _⟩
  have hS2 : PosAt ((W1.alloc (.cells Tryd.zeroCells31 31)).alloc (.cells Tryd.zeroCells31 31)) w.heap.size c ∧ Below w.heap.size w ((W1.alloc (.cells Tryd.zeroCells31 31)).alloc (.cells Tryd.zeroCells31 31)) := ⟨hS1.1.alloc _, hS1.2.alloc hS1.2.size _⟩
  have hA : RowAt ((W1.alloc (.cells Tryd.zeroCells31 31)).alloc (.cells Tryd.zeroCells31 31)) W1.heap.size 31 Tryd.zeroCells31 := (RowAt.new W1 _ _).alloc _
  have hB : RowAt ((W1.alloc (.cells Tryd.zeroCells31 31)).alloc (.cells Tryd.zeroCells31 31)) (W1.heap.size + 1) 31 Tryd.zeroCells31 := by
    have := RowAt.new (W1.alloc (.cells Tryd.zeroCells31 31)) Tryd.zeroCells31 31
    rwa [World.size_alloc] at this
  have hz2 : ((W1.alloc (.cells Tryd.zeroCells31 31)).alloc (.cells Tryd.zeroCells31 31)).heap.size = W1.heap.size + 2 := by simp
  have hz2 : W1.heap.size + 1 < ((W1.alloc (.cells Tryd.zeroCells31 31)).alloc (.cells Tryd.zeroCells31 31)).heap.size := by omega
  have HS1 := Lib.hid hS1
  have HS2 := Lib.hid hS2
  clear hS1 hS2
  refine wpAnyH_all (rs := [2, 3]) (by kernel_rfl) (by simp) (fun i hi => ?_)
  obtain rfl | rfl : i = 2 ∨ i = 3 := by simpa using hi
  · clear hi
    refine wpOp_at rfl rfl ?_
    unfold Oper.wp
    go_simp
    refine ⟨HS1.out, ?_⟩
    refine wpAnyH_all (rs := [3]) (by kernel_rfl) (by simp) (fun i hi => ?_)
    obtain rfl : i = 3 := by simpa using hi
    clear hi
    refine wpOp_at rfl rfl ?_
    unfold Oper.wp
    go_simp
    refine ⟨HS2.out, ?_⟩
    have hS2 := HS2.out
    clear HS1 HS2
    obtain ⟨bq, hbq⟩ : ∃ bq, W1.heap.size = bq := ⟨_, rfl⟩
    obtain ⟨bn, hbn⟩ : ∃ bn, W1.heap.size + 1 = bn := ⟨_, rfl⟩
    have hne : bq ≠ bn := by omega
    have hbq1 : w.heap.size < bq := by omega
    have hbn1 : w.heap.size < bn := by omega
    have hQ : RowAt ((W1.alloc (.cells Tryd.zeroCells31 31)).alloc (.cells Tryd.zeroCells31 31)) bq 31 Tryd.zeroCells31 := by rw [← hbq]; exact hA
    have hN : RowAt ((W1.alloc (.cells Tryd.zeroCells31 31)).alloc (.cells Tryd.zeroCells31 31)) bn 31 Tryd.zeroCells31 := by rw [← hbn]; exact hB
    rw [hbn, hbq]
    clear hbq hbn hA hB hz2
    revert hS2 hQ hN
    generalize (W1.alloc (.cells Tryd.zeroCells31 31)).alloc (.cells Tryd.zeroCells31 31) = W2
    intro hS2 hQ hN
    refine takeOne 4 (by kernel_rfl) (by kernel_rfl) (by kernel_rfl) ?_
    refine wp_store_row 31 (.tmp 6) (.tmp 23) (by kernel_rfl) bq (posC c) (by kernel_rfl) (by kernel_rfl) _ _ hQ.heap (posC_info _) (by rw [zero31_sizeC, posC_size]) (posC_one _) ?_
    have hV := put_setRow W2 bq (posC c)
    have hq : PosAt (W2.setRow bq (posC c)) bq c := ⟨setRow_heap _ _ _ _ _ _ hQ.heap⟩
    have hS3 : PosAt (W2.setRow bq (posC c)) w.heap.size c ∧ Below w.heap.size w (W2.setRow bq (posC c)) := ⟨hV.pos hS2.1 (by omega), hV.below hS2.2 (by omega)⟩
    have hN3 := hV.row hN (Ne.symm hne)
    refine ⟨hS3, ?_⟩
    have hall := And.intro hS3 (And.intro hq hN3)
    clear hV hS2 hQ hN hS3 hq hN3
    revert hall
    generalize W2.setRow bq (posC c) = W3
    rintro ⟨hS3, hq, hN3⟩
    refine takeOne 5 (by kernel_rfl) (by kernel_rfl) (by kernel_rfl) ?_
    refine wp_store_row 31 (.tmp 7) (.tmp 24) (by kernel_rfl) bn (posC c) (by kernel_rfl) (by kernel_rfl) _ _ hN3.heap (posC_info _) (by rw [zero31_sizeC, posC_size]) (posC_one _) ?_
    have hV := put_setRow W3 bn (posC c)
    have hn : PosAt (W3.setRow bn (posC c)) bn c := ⟨setRow_heap _ _ _ _ _ _ hN3.heap⟩
    have hS4 : PosAt (W3.setRow bn (posC c)) w.heap.size c ∧ Below w.heap.size w (W3.setRow bn (posC c)) := ⟨hV.pos hS3.1 (by omega), hV.below hS3.2 (by omega)⟩
    replace hq := hV.pos hq hne
    refine ⟨hS4, ?_⟩
    have hall := And.intro hS4 (And.intro hq hn)
    clear hV hS3 hN3 hS4 hq hn
    revert hall
    generalize W3.setRow bn (posC c) = W4
    rintro ⟨⟨hp, hb0⟩, hq, hn⟩
    refine wpAnyH_done (by kernel_rfl) ?_ _
    have h78 := hp.cell (i := 78) (by decide)
    rw [hct, show pk 78 = .u8 from rfl] at h78
    have h78q := hq.cell (i := 78) (by decide)
    rw [hct, show pk 78 = .u8 from rfl] at h78q
    go_wp2_with (first
      | ((with_reducible refine wp_store_cell rfl _ _ _ rfl ?_); refine ⟨_, _, _, _, _, rfl, rfl, hq, (by decide), rfl, Tryd.size_i8, ?_⟩; intro V hV hq2; replace hp := hV.pos hp (by omega); replace hn := hV.pos hn (Ne.symm hne); replace hb0 := hV.below hb0 (by omega); clear hV hq; have hq := hq2; clear hq2; have h78 := hp.cell (i := 78) (by decide); rw [hct, show pk 78 = .u8 from rfl] at h78)
      | ((with_reducible refine wp_store_two rfl _ _ _ rfl ?_); refine ⟨_, _, _, _, _, _, rfl, rfl, hn, (by decide), rfl, rfl, Tryd.size_2i8, ?_⟩; intro V hV hn2; replace hp := hV.pos hp (by omega); replace hq := hV.pos hq hne; replace hb0 := hV.below hb0 (by omega); clear hV hn; have hn := hn2; clear hn2; have h78 := hp.cell (i := 78) (by decide); rw [hct, show pk 78 = .u8 from rfl] at h78)
      | ((with_reducible refine wp_load_box rfl _ rfl ?_); refine ⟨_, _, rfl, hp, ?_⟩)
      | fail)
    refine (HL.out _ (HT.out _ hb0)).mono ?_
    rintro e u1 ⟨v1, rfl, hown1, hb⟩
    replace hp := hp.below hb
    replace hq := hq.below hb
    replace hn := hn.below hb
    replace hb0 := below_next hb0 hb
    clear hb
    go_wp2_with (first
      | ((with_reducible refine wp_load_box rfl _ rfl ?_); refine ⟨_, _, rfl, hq, ?_⟩)
      | fail)
    refine (HQ.out _ (HT.out _ hb0)).mono ?_
    rintro e u2 ⟨v2, rfl, hown2, hb⟩
    replace hp := hp.below hb
    replace hn := hn.below hb
    replace hown1 := owns_below hown1 hb
    replace hb0 := below_next hb0 hb
    clear hb hq
    obtain ⟨a2, cap2, rfl, hc2, hm2, hB⟩ := owns_row5 hown2
    by_cases hl : 0 < L.length
    · obtain ⟨b1, cap, rfl, hbb, hbs, hnc, hcm, hcells⟩ := owns_openN hown1 hl
      have Hm1 := Lib.hid (fun W (hb : Below u2.heap.size u2 W) i x (hx : L[i]? = some x) => (T.movAt hcells i x hx).below hb)
      have HB := Lib.hid (fun (hb0 : 0 < (L.filter fun x => T.sd x != 1).length) => (hB hb0).imp fun b2 h => (show a2 = some ⟨b2, 0, none⟩ ∧ b2 < u2.heap.size ∧ ∀ W (_ : Below u2.heap.size u2 W) i x (_ : (L.filter fun x => T.sd x != 1)[i]? = some x), T.MovAt W b2 (i * 5) x from ⟨h.1, h.2.2.1, fun W hb i x hx => (T.movAt h.2.2.2 i x hx).below hb⟩))
      clear hown1 hown2 hcells hbb hB
      unfold maxLen at hcm hm2
      obtain ⟨q, hqq⟩ : ∃ q, L.length = q := ⟨_, rfl⟩
      obtain ⟨r, hr⟩ : ∃ r, (L.filter fun x => T.sd x != 1).length = r := ⟨_, rfl⟩
      have hrq : r ≤ q := by rw [← hr, ← hqq]; exact List.length_filter_le _ _
      have Hr := Lib.hid (And.intro hqq hr)
      rw [hqq] at hl hnc hL2 ⊢
      rw [hr] at hc2 HB ⊢
      clear hqq hr
      have H0 := Lib.hid (And.intro hp (And.intro hn hb0))
      clear hp hn hb0
      go_wp2
      go_loopw [10, 11] (fun x i wr => ∃ n : Nat, n ≤ q ∧ i = .int .i64 (n : Int) ∧ x = .int .i64 ((((L.take n).filter fun x => T.sd x != 1).length : Nat) : Int) ∧ PosAt wr w.heap.size c ∧ PosAt wr bn (upd (upd c 81 (-1)) (81 + 1) (-1)) ∧ Below u2.heap.size u2 wr ∧ Below w.heap.size w wr) (fun _ i _ => q - (intOf i).toNat)
      case atStart => exact ⟨0, by omega, rfl, rfl, H0.out.1, H0.out.2.1, Below.refl _ _, H0.out.2.2⟩
      case round =>
        obtain ⟨n, hn', rfl, rfl, hp, hn, hbu, hbr⟩ := hrel
        by_cases hlt : n < q
        · obtain ⟨⟨k, s⟩, hm⟩ : ∃ m, L[n]? = some m := ⟨_, List.getElem?_eq_getElem (by rw [Hr.out.1]; exact hlt)⟩
          obtain ⟨m0, m1, m2, m3, m4⟩ := (Hm1.out wr hbu n (k, s) hm).five
          simp only at m0 m1
          obtain ⟨t', d', his⟩ := Hmem.out (k, s) (List.mem_of_getElem? hm)
          simp only at his
          have hd2 := his.d2
          have hk64 := his.khome
          have hs64 := his.shome
          have ht2 := his.t2
          have hsd : T.sd (k, s) = d' := by
            unfold T.sd
            by_cases hlk : k < s
            · rw [if_pos hlk, his.dir.1 hlk]
            · rw [if_neg hlk]; have h5 : ¬ d' = 0 := fun e => hlk (his.dir.2 e); omega
          have hft := T.filter_take (fun x => T.sd x != 1) L n (k, s) hm
          have hfg := T.filter_get (fun x => T.sd x != 1) L n (k, s) hm
          have hfl : ((L.take n).filter fun x => T.sd x != 1).length ≤ n := Nat.le_trans (List.length_filter_le _ _) (by rw [List.length_take]; omega)
          rw [hsd] at hft hfg
          have HS := Lib.hid (fun W => cside_eq c (k : Int) (s : Int) 0 0 true (d' : Int) W hc (by omega) (by omega) (T.side_is his))
          have hb1 : b1 < wr.heap.size := by have := hbu.size; omega
          have hlp := hp.lt
          generalize ((L.take n).filter fun x => T.sd x != 1).length = y at hft hfg hfl ⊢
          have Hft := Lib.hid hft
          have Hfg := Lib.hid hfg
          have HMM := Lib.hid hm
          clear hft hfg his hsd hk64 hs64 ht2 hm
          rcases (show d' = 1 ∨ d' = 0 by omega) with rfl | rfl
          · go_wp2_with fail
            refine region_below (by kernel_rfl) (by kernel_rfl) ?_
            repeat (first
              | go_big_quiet_step (first
                | (go_at_call 17; exact quiet_below (HS.out _)))
              | (go_big_quiet_want; refine quiet_load_box _ rfl ⟨_, _, rfl, hp, ?_⟩; simp only [Act.put, List.setIfInBounds_toArray, List.set_cons_succ, List.set_cons_zero]; go_big_quiet_on))
            refine wpQuiet_nil ?_
            intro w3 hb3
            go_wp2
            exact ⟨⟨n + 1, by omega, by go_num, by rw [Hft.out]; rfl, hp.below hb3, hn.below hb3, below_next hbu hb3, below_next hbr hb3⟩, by simp [intOf]; omega⟩
          · have hgt := Hfg.out (by decide)
            have hy : y < r := by rw [← Hr.out.2]; exact (List.getElem?_eq_some_iff.1 hgt).1
            obtain ⟨b2, rfl, hb2, hat⟩ := HB.out (by omega)
            have Hat := Lib.hid (fun W hb => (hat W hb y (k, s) hgt).five)
            clear hat hgt
            go_wp2_with fail
            refine region_below (by kernel_rfl) (by kernel_rfl) ?_
            repeat (first
              | go_big_quiet_step (first
                | (go_at_call 17; exact quiet_below (HS.out _)))
              | (go_big_quiet_want; refine quiet_load_box _ rfl ⟨_, _, rfl, hp, ?_⟩; simp only [Act.put, List.setIfInBounds_toArray, List.set_cons_succ, List.set_cons_zero]; go_big_quiet_on))
            refine wpQuiet_nil ?_
            intro w3 hb3
            clear m0 m1 m2 m3 m4
            replace hbu := below_next hbu hb3
            replace hbr := below_next hbr hb3
            replace hp := hp.below hb3
            replace hn := hn.below hb3
            clear hb3
            obtain ⟨m0, m1, m2, m3, m4⟩ := (Hm1.out w3 hbu n (k, s) HMM.out).five
            obtain ⟨k0, k1, k2, k3, k4⟩ := Hat.out w3 hbu
            simp only at m0 m1 k0 k1
            go_wp2
            go_quiet (fail)
            go_wp2
            exact ⟨⟨n + 1, by omega, by go_num, by rw [Hft.out]; rfl, hp.drewN nq, hn.drewN nq, M.below_drew hbu nq, M.below_drew hbr nq⟩, by simp [intOf]; omega⟩
        · obtain rfl : n = q := by omega
          have hfin : ((L.take n).filter fun x => T.sd x != 1).length = r := by rw [← Hr.out.1, List.take_length]; exact Hr.out.2
          rw [hfin]
          go_wp2_with (first
            | ((with_reducible refine wp_load_box rfl _ rfl ?_); refine ⟨_, _, rfl, hn, ?_⟩)
            | ((with_reducible refine wp_load_box_g rfl _ rfl ?_); refine ⟨_, _, rfl, hn, ?_⟩)
            | fail)
          refine (HN.out _ (HT.out _ hbr)).mono ?_
          rintro e u3 ⟨v3, rfl, hown3, hb⟩
          replace hbr := below_next hbr hb
          clear hb
          obtain ⟨ao3, cap3, rfl⟩ : ∃ ao cap, v3 = .slice ao 0 cap := by
            rcases hown3.2 with ⟨e, _⟩ | ⟨g, cap, cur, e, _⟩
            · exact ⟨_, _, e⟩
            · exact ⟨_, _, e⟩
          clear hown3
          go_wp2_with (first
            | (go_at_call 16; refine (awake14_any _ (HT.out _ hbr)).mono ?_; rintro e u4 ⟨rfl, hb⟩; replace hbr := below_next hbr hb; clear hb))
          go_ret
          exact ⟨rfl, hbr⟩
    · have hL0 : L = [] := by cases L with | nil => rfl | cons x l => simp at hl
      subst hL0
      obtain ⟨a1, cap1, rfl⟩ : ∃ ao cap, v1 = .slice ao 0 cap := by
        rcases hown1.2 with ⟨e, _⟩ | ⟨g, cap, cur, e, _⟩
        · exact ⟨_, _, e⟩
        · exact ⟨_, _, e⟩
      clear hown1 hown2 hB hc2 hl
      simp only [List.filter_nil, List.length_nil]
      have H0 := Lib.hid (And.intro hn hb0)
      clear hp hn hb0
      go_wp2
      go_loopw [10, 11] (fun x i wr => i = .int .i64 0 ∧ x = .int .i64 0 ∧ PosAt wr bn (upd (upd c 81 (-1)) (81 + 1) (-1)) ∧ Below w.heap.size w wr) (fun _ _ _ => 0)
      case atStart => exact ⟨rfl, rfl, H0.out.1, H0.out.2⟩
      case round =>
        obtain ⟨rfl, rfl, hn, hbr⟩ := hrel
        go_wp2_with (first
          | ((with_reducible refine wp_load_box rfl _ rfl ?_); refine ⟨_, _, rfl, hn, ?_⟩)
          | ((with_reducible refine wp_load_box_g rfl _ rfl ?_); refine ⟨_, _, rfl, hn, ?_⟩)
          | fail)
        refine (HN.out _ (HT.out _ hbr)).mono ?_
        rintro e u3 ⟨v3, rfl, hown3, hb⟩
        replace hbr := below_next hbr hb
        clear hb
        obtain ⟨ao3, cap3, rfl⟩ : ∃ ao cap, v3 = .slice ao 0 cap := by
          rcases hown3.2 with ⟨e, _⟩ | ⟨g, cap, cur, e, _⟩
          · exact ⟨_, _, e⟩
          · exact ⟨_, _, e⟩
        clear hown3
        go_wp2_with (first
          | (go_at_call 16; refine (awake14_any _ (HT.out _ hbr)).mono ?_; rintro e u4 ⟨rfl, hb⟩; replace hbr := below_next hbr hb; clear hb))
        go_ret
        exact ⟨rfl, hbr⟩

  · clear hi
    refine wpOp_at rfl rfl ?_
    unfold Oper.wp
    go_simp
    refine ⟨HS1.out, ?_⟩
    refine wpAnyH_all (rs := [2]) (by kernel_rfl) (by simp) (fun i hi => ?_)
    obtain rfl : i = 2 := by simpa using hi
    clear hi
    refine wpOp_at rfl rfl ?_
    unfold Oper.wp
    go_simp
    refine ⟨HS2.out, ?_⟩
    have hS2 := HS2.out
    clear HS1 HS2
    obtain ⟨bq, hbq⟩ : ∃ bq, W1.heap.size + 1 = bq := ⟨_, rfl⟩
    obtain ⟨bn, hbn⟩ : ∃ bn, W1.heap.size = bn := ⟨_, rfl⟩
    have hne : bq ≠ bn := by omega
    have hbq1 : w.heap.size < bq := by omega
    have hbn1 : w.heap.size < bn := by omega
    have hQ : RowAt ((W1.alloc (.cells Tryd.zeroCells31 31)).alloc (.cells Tryd.zeroCells31 31)) bq 31 Tryd.zeroCells31 := by rw [← hbq]; exact hB
    have hN : RowAt ((W1.alloc (.cells Tryd.zeroCells31 31)).alloc (.cells Tryd.zeroCells31 31)) bn 31 Tryd.zeroCells31 := by rw [← hbn]; exact hA
    rw [hbq, hbn]
    clear hbq hbn hA hB hz2
    revert hS2 hQ hN
    generalize (W1.alloc (.cells Tryd.zeroCells31 31)).alloc (.cells Tryd.zeroCells31 31) = W2
    intro hS2 hQ hN
    refine takeOne 4 (by kernel_rfl) (by kernel_rfl) (by kernel_rfl) ?_
    refine wp_store_row 31 (.tmp 6) (.tmp 23) (by kernel_rfl) bq (posC c) (by kernel_rfl) (by kernel_rfl) _ _ hQ.heap (posC_info _) (by rw [zero31_sizeC, posC_size]) (posC_one _) ?_
    have hV := put_setRow W2 bq (posC c)
    have hq : PosAt (W2.setRow bq (posC c)) bq c := ⟨setRow_heap _ _ _ _ _ _ hQ.heap⟩
    have hS3 : PosAt (W2.setRow bq (posC c)) w.heap.size c ∧ Below w.heap.size w (W2.setRow bq (posC c)) := ⟨hV.pos hS2.1 (by omega), hV.below hS2.2 (by omega)⟩
    have hN3 := hV.row hN (Ne.symm hne)
    refine ⟨hS3, ?_⟩
    have hall := And.intro hS3 (And.intro hq hN3)
    clear hV hS2 hQ hN hS3 hq hN3
    revert hall
    generalize W2.setRow bq (posC c) = W3
    rintro ⟨hS3, hq, hN3⟩
    refine takeOne 5 (by kernel_rfl) (by kernel_rfl) (by kernel_rfl) ?_
    refine wp_store_row 31 (.tmp 7) (.tmp 24) (by kernel_rfl) bn (posC c) (by kernel_rfl) (by kernel_rfl) _ _ hN3.heap (posC_info _) (by rw [zero31_sizeC, posC_size]) (posC_one _) ?_
    have hV := put_setRow W3 bn (posC c)
    have hn : PosAt (W3.setRow bn (posC c)) bn c := ⟨setRow_heap _ _ _ _ _ _ hN3.heap⟩
    have hS4 : PosAt (W3.setRow bn (posC c)) w.heap.size c ∧ Below w.heap.size w (W3.setRow bn (posC c)) := ⟨hV.pos hS3.1 (by omega), hV.below hS3.2 (by omega)⟩
    replace hq := hV.pos hq hne
    refine ⟨hS4, ?_⟩
    have hall := And.intro hS4 (And.intro hq hn)
    clear hV hS3 hN3 hS4 hq hn
    revert hall
    generalize W3.setRow bn (posC c) = W4
    rintro ⟨⟨hp, hb0⟩, hq, hn⟩
    refine wpAnyH_done (by kernel_rfl) ?_ _
    have h78 := hp.cell (i := 78) (by decide)
    rw [hct, show pk 78 = .u8 from rfl] at h78
    have h78q := hq.cell (i := 78) (by decide)
    rw [hct, show pk 78 = .u8 from rfl] at h78q
    go_wp2_with (first
      | ((with_reducible refine wp_store_cell rfl _ _ _ rfl ?_); refine ⟨_, _, _, _, _, rfl, rfl, hq, (by decide), rfl, Tryd.size_i8, ?_⟩; intro V hV hq2; replace hp := hV.pos hp (by omega); replace hn := hV.pos hn (Ne.symm hne); replace hb0 := hV.below hb0 (by omega); clear hV hq; have hq := hq2; clear hq2; have h78 := hp.cell (i := 78) (by decide); rw [hct, show pk 78 = .u8 from rfl] at h78)
      | ((with_reducible refine wp_store_two rfl _ _ _ rfl ?_); refine ⟨_, _, _, _, _, _, rfl, rfl, hn, (by decide), rfl, rfl, Tryd.size_2i8, ?_⟩; intro V hV hn2; replace hp := hV.pos hp (by omega); replace hq := hV.pos hq hne; replace hb0 := hV.below hb0 (by omega); clear hV hn; have hn := hn2; clear hn2; have h78 := hp.cell (i := 78) (by decide); rw [hct, show pk 78 = .u8 from rfl] at h78)
      | ((with_reducible refine wp_load_box rfl _ rfl ?_); refine ⟨_, _, rfl, hp, ?_⟩)
      | fail)
    refine (HL.out _ (HT.out _ hb0)).mono ?_
    rintro e u1 ⟨v1, rfl, hown1, hb⟩
    replace hp := hp.below hb
    replace hq := hq.below hb
    replace hn := hn.below hb
    replace hb0 := below_next hb0 hb
    clear hb
    go_wp2_with (first
      | ((with_reducible refine wp_load_box rfl _ rfl ?_); refine ⟨_, _, rfl, hq, ?_⟩)
      | fail)
    refine (HQ.out _ (HT.out _ hb0)).mono ?_
    rintro e u2 ⟨v2, rfl, hown2, hb⟩
    replace hp := hp.below hb
    replace hn := hn.below hb
    replace hown1 := owns_below hown1 hb
    replace hb0 := below_next hb0 hb
    clear hb hq
    obtain ⟨a2, cap2, rfl, hc2, hm2, hB⟩ := owns_row5 hown2
    by_cases hl : 0 < L.length
    · obtain ⟨b1, cap, rfl, hbb, hbs, hnc, hcm, hcells⟩ := owns_openN hown1 hl
      have Hm1 := Lib.hid (fun W (hb : Below u2.heap.size u2 W) i x (hx : L[i]? = some x) => (T.movAt hcells i x hx).below hb)
      have HB := Lib.hid (fun (hb0 : 0 < (L.filter fun x => T.sd x != 1).length) => (hB hb0).imp fun b2 h => (show a2 = some ⟨b2, 0, none⟩ ∧ b2 < u2.heap.size ∧ ∀ W (_ : Below u2.heap.size u2 W) i x (_ : (L.filter fun x => T.sd x != 1)[i]? = some x), T.MovAt W b2 (i * 5) x from ⟨h.1, h.2.2.1, fun W hb i x hx => (T.movAt h.2.2.2 i x hx).below hb⟩))
      clear hown1 hown2 hcells hbb hB
      unfold maxLen at hcm hm2
      obtain ⟨q, hqq⟩ : ∃ q, L.length = q := ⟨_, rfl⟩
      obtain ⟨r, hr⟩ : ∃ r, (L.filter fun x => T.sd x != 1).length = r := ⟨_, rfl⟩
      have hrq : r ≤ q := by rw [← hr, ← hqq]; exact List.length_filter_le _ _
      have Hr := Lib.hid (And.intro hqq hr)
      rw [hqq] at hl hnc hL2 ⊢
      rw [hr] at hc2 HB ⊢
      clear hqq hr
      have H0 := Lib.hid (And.intro hp (And.intro hn hb0))
      clear hp hn hb0
      go_wp2
      go_loopw [10, 11] (fun x i wr => ∃ n : Nat, n ≤ q ∧ i = .int .i64 (n : Int) ∧ x = .int .i64 ((((L.take n).filter fun x => T.sd x != 1).length : Nat) : Int) ∧ PosAt wr w.heap.size c ∧ PosAt wr bn (upd (upd c 81 (-1)) (81 + 1) (-1)) ∧ Below u2.heap.size u2 wr ∧ Below w.heap.size w wr) (fun _ i _ => q - (intOf i).toNat)
      case atStart => exact ⟨0, by omega, rfl, rfl, H0.out.1, H0.out.2.1, Below.refl _ _, H0.out.2.2⟩
      case round =>
        obtain ⟨n, hn', rfl, rfl, hp, hn, hbu, hbr⟩ := hrel
        by_cases hlt : n < q
        · obtain ⟨⟨k, s⟩, hm⟩ : ∃ m, L[n]? = some m := ⟨_, List.getElem?_eq_getElem (by rw [Hr.out.1]; exact hlt)⟩
          obtain ⟨m0, m1, m2, m3, m4⟩ := (Hm1.out wr hbu n (k, s) hm).five
          simp only at m0 m1
          obtain ⟨t', d', his⟩ := Hmem.out (k, s) (List.mem_of_getElem? hm)
          simp only at his
          have hd2 := his.d2
          have hk64 := his.khome
          have hs64 := his.shome
          have ht2 := his.t2
          have hsd : T.sd (k, s) = d' := by
            unfold T.sd
            by_cases hlk : k < s
            · rw [if_pos hlk, his.dir.1 hlk]
            · rw [if_neg hlk]; have h5 : ¬ d' = 0 := fun e => hlk (his.dir.2 e); omega
          have hft := T.filter_take (fun x => T.sd x != 1) L n (k, s) hm
          have hfg := T.filter_get (fun x => T.sd x != 1) L n (k, s) hm
          have hfl : ((L.take n).filter fun x => T.sd x != 1).length ≤ n := Nat.le_trans (List.length_filter_le _ _) (by rw [List.length_take]; omega)
          rw [hsd] at hft hfg
          have HS := Lib.hid (fun W => cside_eq c (k : Int) (s : Int) 0 0 true (d' : Int) W hc (by omega) (by omega) (T.side_is his))
          have hb1 : b1 < wr.heap.size := by have := hbu.size; omega
          have hlp := hp.lt
          generalize ((L.take n).filter fun x => T.sd x != 1).length = y at hft hfg hfl ⊢
          have Hft := Lib.hid hft
          have Hfg := Lib.hid hfg
          have HMM := Lib.hid hm
          clear hft hfg his hsd hk64 hs64 ht2 hm
          rcases (show d' = 1 ∨ d' = 0 by omega) with rfl | rfl
          · go_wp2_with fail
            refine region_below (by kernel_rfl) (by kernel_rfl) ?_
            repeat (first
              | go_big_quiet_step (first
                | (go_at_call 17; exact quiet_below (HS.out _)))
              | (go_big_quiet_want; refine quiet_load_box _ rfl ⟨_, _, rfl, hp, ?_⟩; simp only [Act.put, List.setIfInBounds_toArray, List.set_cons_succ, List.set_cons_zero]; go_big_quiet_on))
            refine wpQuiet_nil ?_
            intro w3 hb3
            go_wp2
            exact ⟨⟨n + 1, by omega, by go_num, by rw [Hft.out]; rfl, hp.below hb3, hn.below hb3, below_next hbu hb3, below_next hbr hb3⟩, by simp [intOf]; omega⟩
          · have hgt := Hfg.out (by decide)
            have hy : y < r := by rw [← Hr.out.2]; exact (List.getElem?_eq_some_iff.1 hgt).1
            obtain ⟨b2, rfl, hb2, hat⟩ := HB.out (by omega)
            have Hat := Lib.hid (fun W hb => (hat W hb y (k, s) hgt).five)
            clear hat hgt
            go_wp2_with fail
            refine region_below (by kernel_rfl) (by kernel_rfl) ?_
            repeat (first
              | go_big_quiet_step (first
                | (go_at_call 17; exact quiet_below (HS.out _)))
              | (go_big_quiet_want; refine quiet_load_box _ rfl ⟨_, _, rfl, hp, ?_⟩; simp only [Act.put, List.setIfInBounds_toArray, List.set_cons_succ, List.set_cons_zero]; go_big_quiet_on))
            refine wpQuiet_nil ?_
            intro w3 hb3
            clear m0 m1 m2 m3 m4
            replace hbu := below_next hbu hb3
            replace hbr := below_next hbr hb3
            replace hp := hp.below hb3
            replace hn := hn.below hb3
            clear hb3
            obtain ⟨m0, m1, m2, m3, m4⟩ := (Hm1.out w3 hbu n (k, s) HMM.out).five
            obtain ⟨k0, k1, k2, k3, k4⟩ := Hat.out w3 hbu
            simp only at m0 m1 k0 k1
            go_wp2
            go_quiet (fail)
            go_wp2
            exact ⟨⟨n + 1, by omega, by go_num, by rw [Hft.out]; rfl, hp.drewN nq, hn.drewN nq, M.below_drew hbu nq, M.below_drew hbr nq⟩, by simp [intOf]; omega⟩
        · obtain rfl : n = q := by omega
          have hfin : ((L.take n).filter fun x => T.sd x != 1).length = r := by rw [← Hr.out.1, List.take_length]; exact Hr.out.2
          rw [hfin]
          go_wp2_with (first
            | ((with_reducible refine wp_load_box rfl _ rfl ?_); refine ⟨_, _, rfl, hn, ?_⟩)
            | ((with_reducible refine wp_load_box_g rfl _ rfl ?_); refine ⟨_, _, rfl, hn, ?_⟩)
            | fail)
          refine (HN.out _ (HT.out _ hbr)).mono ?_
          rintro e u3 ⟨v3, rfl, hown3, hb⟩
          replace hbr := below_next hbr hb
          clear hb
          obtain ⟨ao3, cap3, rfl⟩ : ∃ ao cap, v3 = .slice ao 0 cap := by
            rcases hown3.2 with ⟨e, _⟩ | ⟨g, cap, cur, e, _⟩
            · exact ⟨_, _, e⟩
            · exact ⟨_, _, e⟩
          clear hown3
          go_wp2_with (first
            | (go_at_call 16; refine (awake14_any _ (HT.out _ hbr)).mono ?_; rintro e u4 ⟨rfl, hb⟩; replace hbr := below_next hbr hb; clear hb))
          go_ret
          exact ⟨rfl, hbr⟩
    · have hL0 : L = [] := by cases L with | nil => rfl | cons x l => simp at hl
      subst hL0
      obtain ⟨a1, cap1, rfl⟩ : ∃ ao cap, v1 = .slice ao 0 cap := by
        rcases hown1.2 with ⟨e, _⟩ | ⟨g, cap, cur, e, _⟩
        · exact ⟨_, _, e⟩
        · exact ⟨_, _, e⟩
      clear hown1 hown2 hB hc2 hl
      simp only [List.filter_nil, List.length_nil]
      have H0 := Lib.hid (And.intro hn hb0)
      clear hp hn hb0
      go_wp2
      go_loopw [10, 11] (fun x i wr => i = .int .i64 0 ∧ x = .int .i64 0 ∧ PosAt wr bn (upd (upd c 81 (-1)) (81 + 1) (-1)) ∧ Below w.heap.size w wr) (fun _ _ _ => 0)
      case atStart => exact ⟨rfl, rfl, H0.out.1, H0.out.2⟩
      case round =>
        obtain ⟨rfl, rfl, hn, hbr⟩ := hrel
        go_wp2_with (first
          | ((with_reducible refine wp_load_box rfl _ rfl ?_); refine ⟨_, _, rfl, hn, ?_⟩)
          | ((with_reducible refine wp_load_box_g rfl _ rfl ?_); refine ⟨_, _, rfl, hn, ?_⟩)
          | fail)
        refine (HN.out _ (HT.out _ hbr)).mono ?_
        rintro e u3 ⟨v3, rfl, hown3, hb⟩
        replace hbr := below_next hbr hb
        clear hb
        obtain ⟨ao3, cap3, rfl⟩ : ∃ ao cap, v3 = .slice ao 0 cap := by
          rcases hown3.2 with ⟨e, _⟩ | ⟨g, cap, cur, e, _⟩
          · exact ⟨_, _, e⟩
          · exact ⟨_, _, e⟩
        clear hown3
        go_wp2_with (first
          | (go_at_call 16; refine (awake14_any _ (HT.out _ hbr)).mono ?_; rintro e u4 ⟨rfl, hb⟩; replace hbr := below_next hbr hb; clear hb))
        go_ret
        exact ⟨rfl, hbr⟩


theorem castleRights_walk (c : Nat → Int) (side : Bool) (w : World) (hc : PosOk c) (hT : Tb w) :
    Calls Tryd.prog 4 #[.agg (posC c), .bool side] w fun e w' => e = .returned (.bool true) ∧ Below w.heap.size w w' := by
  obtain ⟨v0, v1⟩ := pos_u8 hc (i := 78) (by decide) rfl
  by_cases ht : 1 < c 78
  · exact castleRights_out c side w hc hT ht
  · rcases (show c 78 = 0 ∨ c 78 = 1 by omega) with h | h <;> cases side
    · exact castleRights_0f c w hc hT h
    · exact castleRights_0t c w hc hT h
    · exact castleRights_1f c w hc hT h
    · exact castleRights_1t c w hc hT h

end Go.Proofs.YtnkkhdcjbjiimaaDoor
