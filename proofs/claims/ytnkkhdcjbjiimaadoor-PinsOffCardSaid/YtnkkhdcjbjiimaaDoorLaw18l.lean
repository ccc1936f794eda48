/- The laws of layer 18: PinsOff. -/
import Derived.Test.YtnkkhdcjbjiimaaDoorLaw18k
namespace Go.Proofs.YtnkkhdcjbjiimaaDoor
open Go.RowKit Go.Sort

set_option maxRecDepth 100000 in
set_option maxHeartbeats 4000000 in
theorem pinsOff_walk (c : Nat → Int) (s : Int) (w : World) (hc : PosOk c) (hT : Tb w) :
    Calls Tryd.prog 11 #[.agg (posC c), .int .i64 s] w fun e w' => e = .returned (.bool true) ∧ Below w.heap.size w w' := by
  have Hc := Lib.hid hc
  have Hq := Lib.hid (stdP_bd c (pos_bd hc))
  have hb0 : Below w.heap.size w (w.alloc (.cells (posC c) 31)) := (Below.refl _ _).alloc (Nat.le_refl _) _
  have HT := Lib.hid (fun W (hb : Below w.heap.size w W) => tb_below hT hb)
  have hp := PosAt.new w c
  obtain ⟨n, hn, en⟩ := u64mod s
  obtain ⟨x0, x1⟩ := (pos_bd hc) n hn
  have hm : (c (1 + n)).tmod 8 = c (1 + n) % 8 := Int.tmod_eq_emod_of_nonneg x0
  have hd : (c (1 + n)).tdiv 8 = c (1 + n) / 8 := Int.tdiv_eq_ediv_of_nonneg x0
  have hcn := stdP_at c n hn
  clear hT hc
  cases hok : stdOk c
  · have Hok := Lib.hid hok
    clear hok
    have hcl : True := trivial
    go_enter Tryd.func11, Tryd.ntmps11
    go_wp2_with (first
      | ((with_reducible refine wp_load_box rfl _ rfl ?_); refine ⟨_, _, rfl, (by assumption), ?_⟩)
      | ((with_reducible refine wp_store_box rfl _ _ rfl ?_); refine ⟨_, stdP c, rfl, rfl, ⟨_, hp.heap, posC_size _⟩, ?_⟩; intro V hV hp2; replace hb0 := hV.below hb0 (by omega); clear hV hp hcl; have hp := hp2; clear hp2; have hcl := hp.bd hn; rw [hcn] at hcl)
      | (go_at_call 34; refine (standard_val c false _ Hc.out Hok.out).mono ?_; rintro e u ⟨rfl, hb⟩; replace hp := hp.below hb; replace hb0 := below_next hb0 hb; clear hb)
      | (go_at_call 27; refine (awake18_any _ (HT.out _ hb0)).mono ?_; rintro e u ⟨rfl, hb⟩; replace hb0 := below_next hb0 hb; clear hb))
    go_ret
    exact ⟨rfl, hb0⟩
  · have hl : lawB c = true := by unfold stdOk at hok; rw [Bool.and_eq_true] at hok; exact hok.1
    have hkz := lawful_k c (pos_bd Hc.out) hl n hn
    have hok15 := (lawB_iff c).1 hl n hn
    rw [okL_spec _ x0 x1] at hok15
    have Hok := Lib.hid hok
    clear hok hl
    have hcl : True := trivial
    have Hcn := Lib.hid hcn
    by_cases hz : c (1 + n) = 0
    · have hcn := Hcn.out
      rw [hz] at hcn
      clear hkz hok15 x0 x1 hm hd
      go_enter Tryd.func11, Tryd.ntmps11
      go_wp2_with (first
        | ((with_reducible refine wp_load_box rfl _ rfl ?_); refine ⟨_, _, rfl, (by assumption), ?_⟩)
        | ((with_reducible refine wp_store_box rfl _ _ rfl ?_); refine ⟨_, stdP c, rfl, rfl, ⟨_, hp.heap, posC_size _⟩, ?_⟩; intro V hV hp2; replace hb0 := hV.below hb0 (by omega); clear hV hp hcl; have hp := hp2; clear hp2; have hcl := hp.bd hn; rw [hcn] at hcl)
        | (go_at_call 34; refine (standard_val c true _ Hc.out Hok.out).mono ?_; rintro e u ⟨rfl, hb⟩; replace hp := hp.below hb; replace hb0 := below_next hb0 hb; clear hb)
        | (go_at_call 27; refine (awake18_any _ (HT.out _ hb0)).mono ?_; rintro e u ⟨rfl, hb⟩; replace hcl := (hb.cell (p := ⟨w.heap.size, 1 + n, none⟩) hp.lt).trans hcl; replace hp := hp.below hb; replace hb0 := below_next hb0 hb; clear hb))
      go_ret
      exact ⟨rfl, hb0⟩
    · have hz1 : (c (1 + n) == 0) = false := by simpa using hz
      by_cases h6 : c (1 + n) % 8 = 6
      · have h61 : (c (1 + n) % 8 == 6) = true := by simpa using h6
        clear hkz hok15 x0 x1 hd hz h6
        go_enter Tryd.func11, Tryd.ntmps11
        go_wp2_with (first
          | ((with_reducible refine wp_load_box rfl _ rfl ?_); refine ⟨_, _, rfl, (by assumption), ?_⟩)
          | ((with_reducible refine wp_store_box rfl _ _ rfl ?_); refine ⟨_, stdP c, rfl, rfl, ⟨_, hp.heap, posC_size _⟩, ?_⟩; intro V hV hp2; replace hb0 := hV.below hb0 (by omega); clear hV hp hcl; have hp := hp2; clear hp2; have hcl := hp.bd hn; rw [hcn] at hcl)
          | (go_at_call 34; refine (standard_val c true _ Hc.out Hok.out).mono ?_; rintro e u ⟨rfl, hb⟩; replace hp := hp.below hb; replace hb0 := below_next hb0 hb; clear hb)
          | (go_at_call 27; refine (awake18_any _ (HT.out _ hb0)).mono ?_; rintro e u ⟨rfl, hb⟩; replace hcl := (hb.cell (p := ⟨w.heap.size, 1 + n, none⟩) hp.lt).trans hcl; replace hp := hp.below hb; replace hb0 := below_next hb0 hb; clear hb))
        go_ret
        exact ⟨rfl, hb0⟩
      · have h61 : (c (1 + n) % 8 == 6) = false := by simpa using h6
        have h15 : c (1 + n) ≤ 15 := by
          by_cases h : 15 < c (1 + n)
          · rw [decide_eq_true h, show decide (c (1 + n) ≠ 0) = true by simpa using hz] at hok15; simp at hok15
          · omega
        have hms : ∀ col, c (1 + n) / 8 = col → N.mine (stdP c) col n = true := fun col h => by
          unfold N.mine D.color
          rw [Hcn.out, hkz, h, Bool.and_eq_true]
          exact ⟨by simpa using hz, by simp⟩
        have Hms := Lib.hid hms
        have hcol : c (1 + n) / 8 = 0 ∨ c (1 + n) / 8 = 1 := by omega
        clear hkz hok15 x0 x1 hz h6 hms h15
        rcases hcol with hcol | hcol
        · have hm8 := Hms.out 0 hcol
          rw [hcol] at hd
          obtain ⟨f, hf⟩ : ∃ f, D.find (stdP c) 0 6 = f := ⟨_, rfl⟩
          have hfb := D.find_bd (stdP c) 0 6
          rw [hf] at hfb
          have Pk := Lib.hid (fun W => king18_val (stdP c) 0 f W Hq.out (by decide) hf)
          have Hf := Lib.hid hf
          have Hm8 := Lib.hid hm8
          clear hf hm8 hcol
          rcases hfb with rfl | ⟨k, hk, rfl⟩
          · go_enter Tryd.func11, Tryd.ntmps11
            go_wp2_with (first
              | ((with_reducible refine wp_load_box_g rfl _ rfl ?_); refine ⟨_, _, rfl, (by assumption), ?_⟩)
              | ((with_reducible refine wp_load_box rfl _ rfl ?_); refine ⟨_, _, rfl, (by assumption), ?_⟩)
              | ((with_reducible refine wp_store_box rfl _ _ rfl ?_); refine ⟨_, stdP c, rfl, rfl, ⟨_, hp.heap, posC_size _⟩, ?_⟩; intro V hV hp2; replace hb0 := hV.below hb0 (by omega); clear hV hp hcl; have hp := hp2; clear hp2; have hcl := hp.bd hn; rw [hcn] at hcl)
              | (go_at_call 34; refine (standard_val c true _ Hc.out Hok.out).mono ?_; rintro e u ⟨rfl, hb⟩; replace hp := hp.below hb; replace hb0 := below_next hb0 hb; clear hb)
              | (go_at_call 35; refine (Pk.out _).mono ?_; rintro e u ⟨rfl, hb⟩; replace hcl := (hb.cell (p := ⟨w.heap.size, 1 + n, none⟩) hp.lt).trans hcl; replace hp := hp.below hb; replace hb0 := below_next hb0 hb; clear hb)
              | (go_at_call 27; refine (awake18_any _ (HT.out _ hb0)).mono ?_; rintro e u ⟨rfl, hb⟩; replace hcl := (hb.cell (p := ⟨w.heap.size, 1 + n, none⟩) hp.lt).trans hcl; replace hp := hp.below hb; replace hb0 := below_next hb0 hb; clear hb))
            go_ret
            exact ⟨rfl, hb0⟩
          · obtain ⟨bw, hbw⟩ : ∃ bw, K.by (stdP c) k 1 = bw := ⟨_, rfl⟩
            have hoq := N.off_bd (stdP c) n Hq.out
            have hpd := Hq.out
            have Po := Lib.hid (fun W (hT : Tb W) => pof_any (stdP c) 0 W Hq.out hT)
            cases ho : N.on (stdP c) n with
            | none =>
              obtain ⟨e1, e2⟩ := N.off_none (stdP c) 0 k n Hq.out hk hn (by decide) Hm8.out Hf.out ho
              have hbq : K.by (N.off (stdP c) n) k 1 = bw := e1.trans hbw
              have Pp := Lib.hid (fun W (hT : Tb W) => pinner_val (stdP c) n (-1) W Hq.out hT (by unfold N.pinner; rw [ho]))
              have hqq : (U bw == U bw) = true := by simp
              clear ho e1
              generalize N.men (N.pins (stdP c) 0) = mn at *
              have hdiv : U mn / 2 ^ n = U (bShr mn n) := by have := bv_shr_nat mn n; rwa [Nat.min_eq_left (by omega)] at this
              have hsh : bit (bShr mn n) 0 = bit mn n := by rw [bit_shr, Nat.add_zero]
              have hq0 : (bv1 (bit (bShr mn n) 0) == 0) = true := by rw [hsh, e2]; rfl
              have hd1 : decide ((n : Int) < 0) = false := by simp
              have hd2 : decide (64 ≤ (n : Int)) = false := by simp; omega
              clear hsh e2
              go_enter Tryd.func11, Tryd.ntmps11
              go_wp2_with (first
                | ((with_reducible refine wp_load_box_g rfl _ rfl ?_); refine ⟨_, _, rfl, (by assumption), ?_⟩)
                | ((with_reducible refine wp_load_box rfl _ rfl ?_); refine ⟨_, _, rfl, (by assumption), ?_⟩)
                | ((with_reducible refine wp_store_box rfl _ _ rfl ?_); refine ⟨_, stdP c, rfl, rfl, ⟨_, hp.heap, posC_size _⟩, ?_⟩; intro V hV hp2; replace hb0 := hV.below hb0 (by omega); clear hV hp hcl; have hp := hp2; clear hp2; have hcl := hp.bd hn; rw [hcn] at hcl)
                | ((with_reducible refine wp_store_box rfl _ _ rfl ?_); refine ⟨_, stdP c, rfl, rfl, ⟨_, heap_alloc_new _ _, zero31_size⟩, ?_⟩; intro V hV hq; have hne := hp.lt; replace hp := hV.pos (hp.alloc _) (by omega); replace hb0 := hV.below (hb0.alloc hb0.size _) hb0.size; clear hV hcl)
                | ((with_reducible refine wp_store_cell rfl _ _ _ rfl ?_); refine ⟨_, _, _, _, _, rfl, rfl, hq, (by omega), pk_board hn, Tryd.size_u8, ?_⟩; intro V hV hq2; replace hp := hV.pos hp (by omega); replace hb0 := hV.below hb0 (by omega); clear hV hq; have hq : PosAt _ _ (N.off (stdP c) n) := hq2; clear hq2)
                | (go_at_call 34; refine (standard_val c true _ Hc.out Hok.out).mono ?_; rintro e u ⟨rfl, hb⟩; replace hp := hp.below hb; replace hb0 := below_next hb0 hb; clear hb)
                | (go_at_call 35; refine (Pk.out _).mono ?_; rintro e u ⟨rfl, hb⟩; (try (replace hcl := (hb.cell (p := ⟨w.heap.size, 1 + n, none⟩) hp.lt).trans hcl)); (try (replace hq := hq.below hb)); replace hp := hp.below hb; replace hb0 := below_next hb0 hb; clear hb))
              have HT2 := Lib.hid (HT.out _ hb0)
              refine region_below (by kernel_rfl) (by kernel_rfl) ?_
              repeat (first
                | go_big_quiet_step (first | (go_at_call 36; exact quiet_below (by_val _ _ _ _ _ (by assumption) (tb_grow HT2.out) (by assumption))))
                | (go_big_quiet_want; refine quiet_load_box _ rfl ⟨_, _, rfl, (by assumption), ?_⟩; simp only [Act.put, List.setIfInBounds_toArray, List.set_cons_succ, List.set_cons_zero]; go_big_quiet_on))
              refine wpQuiet_nil ?_
              intro w3 hb3
              replace hp := hp.below hb3
              replace hq := hq.below hb3
              replace hb0 := below_next hb0 hb3
              clear hb3 HT2
              go_wp2_with (first
                | ((with_reducible refine wp_load_box_g rfl _ rfl ?_); refine ⟨_, _, rfl, (by assumption), ?_⟩)
                | ((with_reducible refine wp_load_box rfl _ rfl ?_); refine ⟨_, _, rfl, (by assumption), ?_⟩)
                | (go_at_call 29; refine (Pp.out _ (HT.out _ hb0)).mono ?_; rintro e u ⟨rfl, hb⟩; (try (replace hcl := (hb.cell (p := ⟨w.heap.size, 1 + n, none⟩) hp.lt).trans hcl)); (try (replace hq := hq.below hb)); replace hp := hp.below hb; replace hb0 := below_next hb0 hb; clear hb)
                | (go_at_call 26; refine (Po.out _ (HT.out _ hb0)).mono ?_; rintro e u ⟨rfl, hb⟩; (try (replace hcl := (hb.cell (p := ⟨w.heap.size, 1 + n, none⟩) hp.lt).trans hcl)); (try (replace hq := hq.below hb)); replace hp := hp.below hb; replace hb0 := below_next hb0 hb; clear hb)
                | (go_at_call 27; refine (awake18_any _ (HT.out _ hb0)).mono ?_; rintro e u ⟨rfl, hb⟩; (try (replace hcl := (hb.cell (p := ⟨w.heap.size, 1 + n, none⟩) hp.lt).trans hcl)); (try (replace hq := hq.below hb)); replace hp := hp.below hb; replace hb0 := below_next hb0 hb; clear hb))
              go_ret
              exact ⟨rfl, hb0⟩
            | some x =>
              obtain ⟨a, ha, e0, e1, e2, e3, e4⟩ := N.off_some (stdP c) 0 k n x Hq.out hk hn (by decide) Hm8.out Hf.out ho
              have hbq : K.by (N.off (stdP c) n) k 1 = bOr bw (B.one (a : Int)) := by rw [← hbw]; exact e1
              have Pp := Lib.hid (fun W (hT : Tb W) => pinner_val (stdP c) n (a : Int) W Hq.out hT (by unfold N.pinner; rw [ho]; exact e0))
              have hlx : N.line (stdP c) n = x.2.2 := by unfold N.line; rw [ho]
              have Pl := Lib.hid (fun W (hT : Tb W) => pline_val (stdP c) n (U x.2.2) W Hq.out hT (by rw [hlx]))
              have hone : IntKind.u64.wrap (2 ^ a) = U (B.one a) := B.one_val a (by omega) (by omega)
              have hqq : (U (bOr bw (B.one (a : Int))) == U (bOr bw (B.one (a : Int)))) = true := by simp
              clear ho e1 e0 hlx
              generalize x.2.2 = ln at *
              generalize N.men (N.pins (stdP c) 0) = mn at *
              have hdiv : U mn / 2 ^ n = U (bShr mn n) := by have := bv_shr_nat mn n; rwa [Nat.min_eq_left (by omega)] at this
              have hsh : bit (bShr mn n) 0 = bit mn n := by rw [bit_shr, Nat.add_zero]
              have hq0 : (bv1 (bit (bShr mn n) 0) == 1) = true := by rw [hsh, e2]; rfl
              have hdiv1 : U ln / 2 ^ a = U (bShr ln a) := by have := bv_shr_nat ln a; rwa [Nat.min_eq_left (by omega)] at this
              have hsh1 : bit (bShr ln a) 0 = bit ln a := by rw [bit_shr, Nat.add_zero]
              have hq1 : (bv1 (bit (bShr ln a) 0) == 1) = true := by rw [hsh1, e3]; rfl
              have hdiv2 : U ln / 2 ^ n = U (bShr ln n) := by have := bv_shr_nat ln n; rwa [Nat.min_eq_left (by omega)] at this
              have hsh2 : bit (bShr ln n) 0 = bit ln n := by rw [bit_shr, Nat.add_zero]
              have hq2 : (bv1 (bit (bShr ln n) 0) == 1) = true := by rw [hsh2, e4]; rfl
              have hd1 : decide ((n : Int) < 0) = false := by simp
              have hd2 : decide (64 ≤ (n : Int)) = false := by simp; omega
              have hd3 : decide ((a : Int) < 0) = false := by simp
              have hd4 : decide (64 ≤ (a : Int)) = false := by simp; omega
              have hd5 : 0 ≤ (a : Int) := by omega
              clear hsh hsh1 hsh2 e2 e3 e4
              go_enter Tryd.func11, Tryd.ntmps11
              go_wp2_with (first
                | ((with_reducible refine wp_load_box_g rfl _ rfl ?_); refine ⟨_, _, rfl, (by assumption), ?_⟩)
                | ((with_reducible refine wp_load_box rfl _ rfl ?_); refine ⟨_, _, rfl, (by assumption), ?_⟩)
                | ((with_reducible refine wp_store_box rfl _ _ rfl ?_); refine ⟨_, stdP c, rfl, rfl, ⟨_, hp.heap, posC_size _⟩, ?_⟩; intro V hV hp2; replace hb0 := hV.below hb0 (by omega); clear hV hp hcl; have hp := hp2; clear hp2; have hcl := hp.bd hn; rw [hcn] at hcl)
                | ((with_reducible refine wp_store_box rfl _ _ rfl ?_); refine ⟨_, stdP c, rfl, rfl, ⟨_, heap_alloc_new _ _, zero31_size⟩, ?_⟩; intro V hV hq; have hne := hp.lt; replace hp := hV.pos (hp.alloc _) (by omega); replace hb0 := hV.below (hb0.alloc hb0.size _) hb0.size; clear hV hcl)
                | ((with_reducible refine wp_store_cell rfl _ _ _ rfl ?_); refine ⟨_, _, _, _, _, rfl, rfl, hq, (by omega), pk_board hn, Tryd.size_u8, ?_⟩; intro V hV hq2; replace hp := hV.pos hp (by omega); replace hb0 := hV.below hb0 (by omega); clear hV hq; have hq : PosAt _ _ (N.off (stdP c) n) := hq2; clear hq2)
                | (go_at_call 34; refine (standard_val c true _ Hc.out Hok.out).mono ?_; rintro e u ⟨rfl, hb⟩; replace hp := hp.below hb; replace hb0 := below_next hb0 hb; clear hb)
                | (go_at_call 35; refine (Pk.out _).mono ?_; rintro e u ⟨rfl, hb⟩; (try (replace hcl := (hb.cell (p := ⟨w.heap.size, 1 + n, none⟩) hp.lt).trans hcl)); (try (replace hq := hq.below hb)); replace hp := hp.below hb; replace hb0 := below_next hb0 hb; clear hb))
              have HT2 := Lib.hid (HT.out _ hb0)
              refine region_below (by kernel_rfl) (by kernel_rfl) ?_
              repeat (first
                | go_big_quiet_step (first | (go_at_call 36; exact quiet_below (by_val _ _ _ _ _ (by assumption) (tb_grow HT2.out) (by assumption))))
                | (go_big_quiet_want; refine quiet_load_box _ rfl ⟨_, _, rfl, (by assumption), ?_⟩; simp only [Act.put, List.setIfInBounds_toArray, List.set_cons_succ, List.set_cons_zero]; go_big_quiet_on))
              refine wpQuiet_nil ?_
              intro w3 hb3
              replace hp := hp.below hb3
              replace hq := hq.below hb3
              replace hb0 := below_next hb0 hb3
              clear hb3 HT2
              go_wp2_with (first
                | ((with_reducible refine wp_load_box_g rfl _ rfl ?_); refine ⟨_, _, rfl, (by assumption), ?_⟩)
                | ((with_reducible refine wp_load_box rfl _ rfl ?_); refine ⟨_, _, rfl, (by assumption), ?_⟩)
                | (go_at_call 29; refine (Pp.out _ (HT.out _ hb0)).mono ?_; rintro e u ⟨rfl, hb⟩; (try (replace hcl := (hb.cell (p := ⟨w.heap.size, 1 + n, none⟩) hp.lt).trans hcl)); (try (replace hq := hq.below hb)); replace hp := hp.below hb; replace hb0 := below_next hb0 hb; clear hb)
                | (go_at_call 26; refine (Po.out _ (HT.out _ hb0)).mono ?_; rintro e u ⟨rfl, hb⟩; (try (replace hcl := (hb.cell (p := ⟨w.heap.size, 1 + n, none⟩) hp.lt).trans hcl)); (try (replace hq := hq.below hb)); replace hp := hp.below hb; replace hb0 := below_next hb0 hb; clear hb)
                | (go_at_call 30; refine (Pl.out _ (HT.out _ hb0)).mono ?_; rintro e u ⟨rfl, hb⟩; (try (replace hcl := (hb.cell (p := ⟨w.heap.size, 1 + n, none⟩) hp.lt).trans hcl)); (try (replace hq := hq.below hb)); replace hp := hp.below hb; replace hb0 := below_next hb0 hb; clear hb)
                | (go_at_call 27; refine (awake18_any _ (HT.out _ hb0)).mono ?_; rintro e u ⟨rfl, hb⟩; (try (replace hcl := (hb.cell (p := ⟨w.heap.size, 1 + n, none⟩) hp.lt).trans hcl)); (try (replace hq := hq.below hb)); replace hp := hp.below hb; replace hb0 := below_next hb0 hb; clear hb))
              go_ret
              exact ⟨rfl, hb0⟩
        · have hm8 := Hms.out 1 hcol
          rw [hcol] at hd
          obtain ⟨f, hf⟩ : ∃ f, D.find (stdP c) 1 6 = f := ⟨_, rfl⟩
          have hfb := D.find_bd (stdP c) 1 6
          rw [hf] at hfb
          have Pk := Lib.hid (fun W => king18_val (stdP c) 1 f W Hq.out (by decide) hf)
          have Hf := Lib.hid hf
          have Hm8 := Lib.hid hm8
          clear hf hm8 hcol
          rcases hfb with rfl | ⟨k, hk, rfl⟩
          · go_enter Tryd.func11, Tryd.ntmps11
            go_wp2_with (first
              | ((with_reducible refine wp_load_box_g rfl _ rfl ?_); refine ⟨_, _, rfl, (by assumption), ?_⟩)
              | ((with_reducible refine wp_load_box rfl _ rfl ?_); refine ⟨_, _, rfl, (by assumption), ?_⟩)
              | ((with_reducible refine wp_store_box rfl _ _ rfl ?_); refine ⟨_, stdP c, rfl, rfl, ⟨_, hp.heap, posC_size _⟩, ?_⟩; intro V hV hp2; replace hb0 := hV.below hb0 (by omega); clear hV hp hcl; have hp := hp2; clear hp2; have hcl := hp.bd hn; rw [hcn] at hcl)
              | (go_at_call 34; refine (standard_val c true _ Hc.out Hok.out).mono ?_; rintro e u ⟨rfl, hb⟩; replace hp := hp.below hb; replace hb0 := below_next hb0 hb; clear hb)
              | (go_at_call 35; refine (Pk.out _).mono ?_; rintro e u ⟨rfl, hb⟩; replace hcl := (hb.cell (p := ⟨w.heap.size, 1 + n, none⟩) hp.lt).trans hcl; replace hp := hp.below hb; replace hb0 := below_next hb0 hb; clear hb)
              | (go_at_call 27; refine (awake18_any _ (HT.out _ hb0)).mono ?_; rintro e u ⟨rfl, hb⟩; replace hcl := (hb.cell (p := ⟨w.heap.size, 1 + n, none⟩) hp.lt).trans hcl; replace hp := hp.below hb; replace hb0 := below_next hb0 hb; clear hb))
            go_ret
            exact ⟨rfl, hb0⟩
          · obtain ⟨bw, hbw⟩ : ∃ bw, K.by (stdP c) k 0 = bw := ⟨_, rfl⟩
            have hoq := N.off_bd (stdP c) n Hq.out
            have hpd := Hq.out
            have Po := Lib.hid (fun W (hT : Tb W) => pof_any (stdP c) 1 W Hq.out hT)
            cases ho : N.on (stdP c) n with
            | none =>
              obtain ⟨e1, e2⟩ := N.off_none (stdP c) 1 k n Hq.out hk hn (by decide) Hm8.out Hf.out ho
              have hbq : K.by (N.off (stdP c) n) k 0 = bw := e1.trans hbw
              have Pp := Lib.hid (fun W (hT : Tb W) => pinner_val (stdP c) n (-1) W Hq.out hT (by unfold N.pinner; rw [ho]))
              have hqq : (U bw == U bw) = true := by simp
              clear ho e1
              generalize N.men (N.pins (stdP c) 1) = mn at *
              have hdiv : U mn / 2 ^ n = U (bShr mn n) := by have := bv_shr_nat mn n; rwa [Nat.min_eq_left (by omega)] at this
              have hsh : bit (bShr mn n) 0 = bit mn n := by rw [bit_shr, Nat.add_zero]
              have hq0 : (bv1 (bit (bShr mn n) 0) == 0) = true := by rw [hsh, e2]; rfl
              have hd1 : decide ((n : Int) < 0) = false := by simp
              have hd2 : decide (64 ≤ (n : Int)) = false := by simp; omega
              clear hsh e2
              go_enter Tryd.func11, Tryd.ntmps11
              go_wp2_with (first
                | ((with_reducible refine wp_load_box_g rfl _ rfl ?_); refine ⟨_, _, rfl, (by assumption), ?_⟩)
                | ((with_reducible refine wp_load_box rfl _ rfl ?_); refine ⟨_, _, rfl, (by assumption), ?_⟩)
                | ((with_reducible refine wp_store_box rfl _ _ rfl ?_); refine ⟨_, stdP c, rfl, rfl, ⟨_, hp.heap, posC_size _⟩, ?_⟩; intro V hV hp2; replace hb0 := hV.below hb0 (by omega); clear hV hp hcl; have hp := hp2; clear hp2; have hcl := hp.bd hn; rw [hcn] at hcl)
                | ((with_reducible refine wp_store_box rfl _ _ rfl ?_); refine ⟨_, stdP c, rfl, rfl, ⟨_, heap_alloc_new _ _, zero31_size⟩, ?_⟩; intro V hV hq; have hne := hp.lt; replace hp := hV.pos (hp.alloc _) (by omega); replace hb0 := hV.below (hb0.alloc hb0.size _) hb0.size; clear hV hcl)
                | ((with_reducible refine wp_store_cell rfl _ _ _ rfl ?_); refine ⟨_, _, _, _, _, rfl, rfl, hq, (by omega), pk_board hn, Tryd.size_u8, ?_⟩; intro V hV hq2; replace hp := hV.pos hp (by omega); replace hb0 := hV.below hb0 (by omega); clear hV hq; have hq : PosAt _ _ (N.off (stdP c) n) := hq2; clear hq2)
                | (go_at_call 34; refine (standard_val c true _ Hc.out Hok.out).mono ?_; rintro e u ⟨rfl, hb⟩; replace hp := hp.below hb; replace hb0 := below_next hb0 hb; clear hb)
                | (go_at_call 35; refine (Pk.out _).mono ?_; rintro e u ⟨rfl, hb⟩; (try (replace hcl := (hb.cell (p := ⟨w.heap.size, 1 + n, none⟩) hp.lt).trans hcl)); (try (replace hq := hq.below hb)); replace hp := hp.below hb; replace hb0 := below_next hb0 hb; clear hb))
              have HT2 := Lib.hid (HT.out _ hb0)
              refine region_below (by kernel_rfl) (by kernel_rfl) ?_
              repeat (first
                | go_big_quiet_step (first | (go_at_call 36; exact quiet_below (by_val _ _ _ _ _ (by assumption) (tb_grow HT2.out) (by assumption))))
                | (go_big_quiet_want; refine quiet_load_box _ rfl ⟨_, _, rfl, (by assumption), ?_⟩; simp only [Act.put, List.setIfInBounds_toArray, List.set_cons_succ, List.set_cons_zero]; go_big_quiet_on))
              refine wpQuiet_nil ?_
              intro w3 hb3
              replace hp := hp.below hb3
              replace hq := hq.below hb3
              replace hb0 := below_next hb0 hb3
              clear hb3 HT2
              go_wp2_with (first
                | ((with_reducible refine wp_load_box_g rfl _ rfl ?_); refine ⟨_, _, rfl, (by assumption), ?_⟩)
                | ((with_reducible refine wp_load_box rfl _ rfl ?_); refine ⟨_, _, rfl, (by assumption), ?_⟩)
                | (go_at_call 29; refine (Pp.out _ (HT.out _ hb0)).mono ?_; rintro e u ⟨rfl, hb⟩; (try (replace hcl := (hb.cell (p := ⟨w.heap.size, 1 + n, none⟩) hp.lt).trans hcl)); (try (replace hq := hq.below hb)); replace hp := hp.below hb; replace hb0 := below_next hb0 hb; clear hb)
                | (go_at_call 26; refine (Po.out _ (HT.out _ hb0)).mono ?_; rintro e u ⟨rfl, hb⟩; (try (replace hcl := (hb.cell (p := ⟨w.heap.size, 1 + n, none⟩) hp.lt).trans hcl)); (try (replace hq := hq.below hb)); replace hp := hp.below hb; replace hb0 := below_next hb0 hb; clear hb)
                | (go_at_call 27; refine (awake18_any _ (HT.out _ hb0)).mono ?_; rintro e u ⟨rfl, hb⟩; (try (replace hcl := (hb.cell (p := ⟨w.heap.size, 1 + n, none⟩) hp.lt).trans hcl)); (try (replace hq := hq.below hb)); replace hp := hp.below hb; replace hb0 := below_next hb0 hb; clear hb))
              go_ret
              exact ⟨rfl, hb0⟩
            | some x =>
              obtain ⟨a, ha, e0, e1, e2, e3, e4⟩ := N.off_some (stdP c) 1 k n x Hq.out hk hn (by decide) Hm8.out Hf.out ho
              have hbq : K.by (N.off (stdP c) n) k 0 = bOr bw (B.one (a : Int)) := by rw [← hbw]; exact e1
              have Pp := Lib.hid (fun W (hT : Tb W) => pinner_val (stdP c) n (a : Int) W Hq.out hT (by unfold N.pinner; rw [ho]; exact e0))
              have hlx : N.line (stdP c) n = x.2.2 := by unfold N.line; rw [ho]
              have Pl := Lib.hid (fun W (hT : Tb W) => pline_val (stdP c) n (U x.2.2) W Hq.out hT (by rw [hlx]))
              have hone : IntKind.u64.wrap (2 ^ a) = U (B.one a) := B.one_val a (by omega) (by omega)
              have hqq : (U (bOr bw (B.one (a : Int))) == U (bOr bw (B.one (a : Int)))) = true := by simp
              clear ho e1 e0 hlx
              generalize x.2.2 = ln at *
              generalize N.men (N.pins (stdP c) 1) = mn at *
              have hdiv : U mn / 2 ^ n = U (bShr mn n) := by have := bv_shr_nat mn n; rwa [Nat.min_eq_left (by omega)] at this
              have hsh : bit (bShr mn n) 0 = bit mn n := by rw [bit_shr, Nat.add_zero]
              have hq0 : (bv1 (bit (bShr mn n) 0) == 1) = true := by rw [hsh, e2]; rfl
              have hdiv1 : U ln / 2 ^ a = U (bShr ln a) := by have := bv_shr_nat ln a; rwa [Nat.min_eq_left (by omega)] at this
              have hsh1 : bit (bShr ln a) 0 = bit ln a := by rw [bit_shr, Nat.add_zero]
              have hq1 : (bv1 (bit (bShr ln a) 0) == 1) = true := by rw [hsh1, e3]; rfl
              have hdiv2 : U ln / 2 ^ n = U (bShr ln n) := by have := bv_shr_nat ln n; rwa [Nat.min_eq_left (by omega)] at this
              have hsh2 : bit (bShr ln n) 0 = bit ln n := by rw [bit_shr, Nat.add_zero]
              have hq2 : (bv1 (bit (bShr ln n) 0) == 1) = true := by rw [hsh2, e4]; rfl
              have hd1 : decide ((n : Int) < 0) = false := by simp
              have hd2 : decide (64 ≤ (n : Int)) = false := by simp; omega
              have hd3 : decide ((a : Int) < 0) = false := by simp
              have hd4 : decide (64 ≤ (a : Int)) = false := by simp; omega
              have hd5 : 0 ≤ (a : Int) := by omega
              clear hsh hsh1 hsh2 e2 e3 e4
              go_enter Tryd.func11, Tryd.ntmps11
              go_wp2_with (first
                | ((with_reducible refine wp_load_box_g rfl _ rfl ?_); refine ⟨_, _, rfl, (by assumption), ?_⟩)
                | ((with_reducible refine wp_load_box rfl _ rfl ?_); refine ⟨_, _, rfl, (by assumption), ?_⟩)
                | ((with_reducible refine wp_store_box rfl _ _ rfl ?_); refine ⟨_, stdP c, rfl, rfl, ⟨_, hp.heap, posC_size _⟩, ?_⟩; intro V hV hp2; replace hb0 := hV.below hb0 (by omega); clear hV hp hcl; have hp := hp2; clear hp2; have hcl := hp.bd hn; rw [hcn] at hcl)
                | ((with_reducible refine wp_store_box rfl _ _ rfl ?_); refine ⟨_, stdP c, rfl, rfl, ⟨_, heap_alloc_new _ _, zero31_size⟩, ?_⟩; intro V hV hq; have hne := hp.lt; replace hp := hV.pos (hp.alloc _) (by omega); replace hb0 := hV.below (hb0.alloc hb0.size _) hb0.size; clear hV hcl)
                | ((with_reducible refine wp_store_cell rfl _ _ _ rfl ?_); refine ⟨_, _, _, _, _, rfl, rfl, hq, (by omega), pk_board hn, Tryd.size_u8, ?_⟩; intro V hV hq2; replace hp := hV.pos hp (by omega); replace hb0 := hV.below hb0 (by omega); clear hV hq; have hq : PosAt _ _ (N.off (stdP c) n) := hq2; clear hq2)
                | (go_at_call 34; refine (standard_val c true _ Hc.out Hok.out).mono ?_; rintro e u ⟨rfl, hb⟩; replace hp := hp.below hb; replace hb0 := below_next hb0 hb; clear hb)
                | (go_at_call 35; refine (Pk.out _).mono ?_; rintro e u ⟨rfl, hb⟩; (try (replace hcl := (hb.cell (p := ⟨w.heap.size, 1 + n, none⟩) hp.lt).trans hcl)); (try (replace hq := hq.below hb)); replace hp := hp.below hb; replace hb0 := below_next hb0 hb; clear hb))
              have HT2 := Lib.hid (HT.out _ hb0)
              refine region_below (by kernel_rfl) (by kernel_rfl) ?_
              repeat (first
                | go_big_quiet_step (first | (go_at_call 36; exact quiet_below (by_val _ _ _ _ _ (by assumption) (tb_grow HT2.out) (by assumption))))
                | (go_big_quiet_want; refine quiet_load_box _ rfl ⟨_, _, rfl, (by assumption), ?_⟩; simp only [Act.put, List.setIfInBounds_toArray, List.set_cons_succ, List.set_cons_zero]; go_big_quiet_on))
              refine wpQuiet_nil ?_
              intro w3 hb3
              replace hp := hp.below hb3
              replace hq := hq.below hb3
              replace hb0 := below_next hb0 hb3
              clear hb3 HT2
              go_wp2_with (first
                | ((with_reducible refine wp_load_box_g rfl _ rfl ?_); refine ⟨_, _, rfl, (by assumption), ?_⟩)
                | ((with_reducible refine wp_load_box rfl _ rfl ?_); refine ⟨_, _, rfl, (by assumption), ?_⟩)
                | (go_at_call 29; refine (Pp.out _ (HT.out _ hb0)).mono ?_; rintro e u ⟨rfl, hb⟩; (try (replace hcl := (hb.cell (p := ⟨w.heap.size, 1 + n, none⟩) hp.lt).trans hcl)); (try (replace hq := hq.below hb)); replace hp := hp.below hb; replace hb0 := below_next hb0 hb; clear hb)
                | (go_at_call 26; refine (Po.out _ (HT.out _ hb0)).mono ?_; rintro e u ⟨rfl, hb⟩; (try (replace hcl := (hb.cell (p := ⟨w.heap.size, 1 + n, none⟩) hp.lt).trans hcl)); (try (replace hq := hq.below hb)); replace hp := hp.below hb; replace hb0 := below_next hb0 hb; clear hb)
                | (go_at_call 30; refine (Pl.out _ (HT.out _ hb0)).mono ?_; rintro e u ⟨rfl, hb⟩; (try (replace hcl := (hb.cell (p := ⟨w.heap.size, 1 + n, none⟩) hp.lt).trans hcl)); (try (replace hq := hq.below hb)); replace hp := hp.below hb; replace hb0 := below_next hb0 hb; clear hb)
                | (go_at_call 27; refine (awake18_any _ (HT.out _ hb0)).mono ?_; rintro e u ⟨rfl, hb⟩; (try (replace hcl := (hb.cell (p := ⟨w.heap.size, 1 + n, none⟩) hp.lt).trans hcl)); (try (replace hq := hq.below hb)); replace hp := hp.below hb; replace hb0 := below_next hb0 hb; clear hb))
              go_ret
              exact ⟨rfl, hb0⟩

end Go.Proofs.YtnkkhdcjbjiimaaDoor
