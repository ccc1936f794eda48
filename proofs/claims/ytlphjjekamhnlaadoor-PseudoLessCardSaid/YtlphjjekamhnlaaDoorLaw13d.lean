/- The law PseudoLess. (printed by gen13d.py) -/
import Derived.Test.YtlphjjekamhnlaaDoorCmpMv
import Derived.Test.YtlphjjekamhnlaaDoorTake
namespace Go.Proofs.YtlphjjekamhnlaaDoor
open Go.RowKit Go.Sort

set_option maxRecDepth 100000 in
set_option maxHeartbeats 16000000 in
theorem pseudoLess_walk (c : Nat → Int) (s : Int) (w : World) (hc : PosOk c) (hT : Tb w) :
    Calls Tryd.prog 6 #[.agg (posC c), .int .i64 s] w fun e w' => e = .returned (.bool true) ∧ Below w.heap.size w w' := by
  obtain ⟨n, hn, es⟩ := u64mod s
  have hwn : wrap64 (n : Int) = (n : Int) := IntWalk.wrap64_in _ ⟨by omega, by omega⟩
  have HT := Lib.hid (fun W (hb : Below w.heap.size w W) => tb_below hT hb)
  have HC := Lib.hid hc
  have hp := PosAt.new w c
  have hb0 : Below w.heap.size w (w.alloc (.cells (posC c) 31)) := (Below.refl _ _).alloc (Nat.le_refl _) _
  obtain ⟨W, hW⟩ : ∃ W, w.alloc (.cells (posC c) 31) = W := ⟨_, rfl⟩
  rw [hW] at hp hb0
  have hsq := bd_cell hp.heap n hn
  have h78 := hp.cell (i := 78) (by decide)
  rw [show pk 78 = .u8 from rfl] at h78
  obtain ⟨x0, x1⟩ := pos_bd hc n hn
  obtain ⟨x, hx⟩ : ∃ x, c (1 + n) = x := ⟨_, rfl⟩
  obtain ⟨t, ht⟩ : ∃ t, c 78 = t := ⟨_, rfl⟩
  rw [hx] at hsq x0 x1
  rw [ht] at h78
  have hxq : x.tdiv 8 = x / 8 := Int.tdiv_eq_ediv_of_nonneg x0
  have hlp := hp.lt
  have HX := Lib.hid (And.intro hx ht)
  clear hx ht hT hc
  cases hl : law13 c
  · have HL := Lib.hid hl
    clear hl
    go_enter Tryd.func6, Tryd.ntmps6
    go_wp2_with fail
    refine region_below (by kernel_rfl) (by kernel_rfl) ?_
    repeat (first
      | (go_big_quiet_want; refine quiet_load_box _ rfl ⟨_, _, rfl, hp, ?_⟩; simp only [Act.put, List.setIfInBounds_toArray, List.set_cons_succ, List.set_cons_zero]; go_big_quiet_on)
      | go_big_quiet_step (first | (go_at_call 16; exact quiet_below (lawful13_eq c false _ HC.out HL.out))))
    refine wpQuiet_nil ?_
    intro w3 hb3
    replace hb0 := below_next hb0 hb3
    go_wp2_with (go_at_call 15; refine (awake13_any _ (HT.out _ hb0)).mono ?_; rintro e w4 ⟨rfl, hb4⟩)
    go_ret
    exact ⟨rfl, below_next hb0 hb4⟩
  · have HL := Lib.hid hl
    clear hl
    by_cases hx0 : x = 0
    · have d0 : (x == 0) = true := by simpa using hx0
      clear hx0
      go_enter Tryd.func6, Tryd.ntmps6
      go_wp2_with fail
      refine region_below (by kernel_rfl) (by kernel_rfl) ?_
      repeat (first
        | (go_big_quiet_want; refine quiet_load_box _ rfl ⟨_, _, rfl, hp, ?_⟩; simp only [Act.put, List.setIfInBounds_toArray, List.set_cons_succ, List.set_cons_zero]; go_big_quiet_on)
        | go_big_quiet_step (first | (go_at_call 16; exact quiet_below (lawful13_eq c true _ HC.out HL.out))))
      refine wpQuiet_nil ?_
      intro w3 hb3
      replace hb0 := below_next hb0 hb3
      go_wp2_with (go_at_call 15; refine (awake13_any _ (HT.out _ hb0)).mono ?_; rintro e w4 ⟨rfl, hb4⟩)
      go_ret
      exact ⟨rfl, below_next hb0 hb4⟩
    have d0 : (x == 0) = false := by simpa using hx0
    by_cases hxt : x / 8 = t
    case neg =>
      have d1 : (x / 8 != t) = true := by simpa using hxt
      clear hx0 hxt
      go_enter Tryd.func6, Tryd.ntmps6
      go_wp2_with fail
      refine region_below (by kernel_rfl) (by kernel_rfl) ?_
      repeat (first
        | (go_big_quiet_want; refine quiet_load_box _ rfl ⟨_, _, rfl, hp, ?_⟩; simp only [Act.put, List.setIfInBounds_toArray, List.set_cons_succ, List.set_cons_zero]; go_big_quiet_on)
        | go_big_quiet_step (first | (go_at_call 16; exact quiet_below (lawful13_eq c true _ HC.out HL.out))))
      refine wpQuiet_nil ?_
      intro w3 hb3
      replace hb0 := below_next hb0 hb3
      go_wp2_with (go_at_call 15; refine (awake13_any _ (HT.out _ hb0)).mono ?_; rintro e w4 ⟨rfl, hb4⟩)
      go_ret
      exact ⟨rfl, below_next hb0 hb4⟩
    have d1 : (x / 8 != t) = false := by simpa using hxt
    have HXX := Lib.hid (And.intro hx0 hxt)
    clear hx0 hxt
    go_enter Tryd.func6, Tryd.ntmps6
    go_wp2_with fail
    refine region_below (by kernel_rfl) (by kernel_rfl) ?_
    repeat (first
      | (go_big_quiet_want; refine quiet_load_box _ rfl ⟨_, _, rfl, hp, ?_⟩; simp only [Act.put, List.setIfInBounds_toArray, List.set_cons_succ, List.set_cons_zero]; go_big_quiet_on)
      | go_big_quiet_step (first | (go_at_call 16; exact quiet_below (lawful13_eq c true _ HC.out HL.out))))
    refine wpQuiet_nil ?_
    intro w3 hb3
    replace hb0 := below_next hb0 hb3
    have hp3 := hp.below hb3
    have HB3 := Lib.hid hb0
    clear hb3 hp hb0 hsq h78 d0 d1 x0 x1 hxq
    go_wp2_with (first
      | ((with_reducible refine wp_load_box rfl _ rfl ?_); refine ⟨_, _, rfl, hp3, ?_⟩)
      | ((with_reducible refine wp_store_box rfl _ _ rfl ?_); refine ⟨w3.heap.size, c, rfl, rfl, ⟨_, heap_alloc_new _ _, (by kernel_rfl)⟩, ?_⟩; intro W4 hP4 hq4; have hb4 := hP4.below (HB3.out.alloc HB3.out.size _) HB3.out.size; have hp4 := hP4.pos (hp3.alloc _) (Nat.ne_of_lt hp3.lt))
      | ((with_reducible refine wp_store_cell rfl _ _ _ rfl ?_); refine ⟨w3.heap.size, 1 + n, _, _, _, rfl, rfl, hq4, (by omega), (pk_board hn), Tryd.size_u8, ?_⟩; intro W5 hP5 hq5)
      | fail)
    have hinfo : (Tryd.prog.info? 31).map (·.size) = some (posL c).length := by rw [Tryd.infoPos]; simp [posL]
    have hu := Tryd.underlying31
    have hP45 := hP5.below hb4 HB3.out.size
    have hp5 := hP5.pos hp4 (Nat.ne_of_lt hp3.lt)
    obtain ⟨c', hc'⟩ : ∃ c', upd c (1 + n) 0 = c' := ⟨_, rfl⟩
    rw [hc'] at hq5
    have hinfo' : (Tryd.prog.info? 31).map (·.size) = some (posL c').length := by rw [Tryd.infoPos]; simp [posL]
    have HL1 : Hid (∀ w, Tb w → Calls Tryd.prog 12 #[.agg (posC c)] w (Z.End (D.lst c) w)) := Lib.hid (fun w hw => plist_any c w HC.out hw)
    have HL2 : Hid (∀ w, Tb w → Calls Tryd.prog 12 #[.agg (posC c')] w (Z.End (D.lst c') w)) := Lib.hid (fun w hw => plist_any c' w (by rw [← hc']; exact posOk_zero c n hn HC.out) hw)
    have HLS : Hid (∀ x ∈ D.lst c, x.1 ≠ (n : Int) → x ∈ D.lst c') := Lib.hid (by rw [← hc']; exact less13 c n HC.out HL.out hn (by rw [HX.out.1]; exact HXX.out.1) (by rw [HX.out.1, HX.out.2]; exact HXX.out.2))
    have HSQ : Hid (∀ x ∈ D.lst c, ∃ a b k : Nat, a < 64 ∧ b < 64 ∧ x = Z.mv a b k) := Lib.hid (fun x hx => (lst_sq c x hx).2)
    have hl1 := lst_len c
    have hl2 := lst_len c'
    have hSd : PosAt W5.drew w.heap.size c ∧ PosAt W5.drew w3.heap.size c' ∧ Below w.heap.size w W5.drew := ⟨⟨hp5.heap⟩, ⟨hq5.heap⟩, M.below_drew hP45 1⟩
    have hlp3 := hp3.lt
    clear hp3 hb4 hp4 hP5 hq5 hP45 hp5 hc'
    refine wp_region_held (S := fun w' => PosAt w' w.heap.size c ∧ PosAt w' w3.heap.size c' ∧ Below w.heap.size w w') (by kernel_rfl) ?_
    refine takeD 0 (some 40) (.agg (posC c)) (by kernel_rfl) (by kernel_rfl) (by kernel_rfl) (by kernel_rfl) (by kernel_rfl) (fun _ _ _ h => h) (yieldsIf_load_mid (by kernel_rfl) 31 (.tmp 2) (by kernel_rfl) w.heap.size 0 (by kernel_rfl) (posL c) _ (fun _ h => pos_range h.1.heap) hu rfl hinfo) hSd ?_
    simp only [Act.put, List.setIfInBounds_toArray, List.set_cons_succ, List.set_cons_zero]
    refine takeD 2 (some 42) (.agg (posC c')) (by kernel_rfl) (by kernel_rfl) (by kernel_rfl) (by kernel_rfl) (by kernel_rfl) (fun _ _ _ h => h) (yieldsIf_load_mid (by kernel_rfl) 31 (.tmp 5) (by kernel_rfl) w3.heap.size 0 (by kernel_rfl) (posL c') _ (fun _ h => pos_range h.2.1.heap) hu rfl hinfo') hSd ?_
    simp only [Act.put, List.setIfInBounds_toArray, List.set_cons_succ, List.set_cons_zero]
    refine wpAnyH_all (rs := [1]) (by kernel_rfl) (by simp) (fun i hi => ?_)
    obtain rfl : i = 1 := by simpa using hi
    clear hi
    refine wpOp_at rfl rfl ?_
    unfold Oper.wp
    go_simp
    refine (HL1.out _ (HT.out _ hSd.2.2)).mono ?_
    rintro e uu3 ⟨v3, rfl, hown3, hb⟩
    have hS3 : PosAt uu3 w.heap.size c ∧ PosAt uu3 w3.heap.size c' ∧ Below w.heap.size w uu3 := ⟨hSd.1.below hb, hSd.2.1.below hb, below_next hSd.2.2 hb⟩
    clear hb
    refine ⟨hS3, ?_⟩
    refine wpAnyH_all (rs := [3]) (by kernel_rfl) (by simp) (fun i hi => ?_)
    obtain rfl : i = 3 := by simpa using hi
    clear hi
    refine wpOp_at rfl rfl ?_
    unfold Oper.wp
    go_simp
    refine (HL2.out _ (HT.out _ hS3.2.2)).mono ?_
    rintro e uu4 ⟨v4, rfl, hown4, hb⟩
    have hS4 : PosAt uu4 w.heap.size c ∧ PosAt uu4 w3.heap.size c' ∧ Below w.heap.size w uu4 := ⟨hS3.1.below hb, hS3.2.1.below hb, below_next hS3.2.2 hb⟩
    replace hown3 := owns_below hown3 hb
    obtain ⟨ao1, cap1, rfl, hcp1, hcm1, hat1⟩ := mrow_open hb hown3
    obtain ⟨ao2, cap2, rfl, hcp2, hcm2, hat2⟩ := mrow_open hb hown4
    clear hb hS3 hown3 hown4
    refine ⟨hS4, ?_⟩
    obtain ⟨L, hL⟩ : ∃ L, D.lst c = L := ⟨_, rfl⟩
    obtain ⟨M2, hM2⟩ : ∃ M2, D.lst c' = M2 := ⟨_, rfl⟩
    rw [hL] at hl1 HLS HSQ hcp1 hat1 ⊢
    rw [hM2] at hl2 HLS hcp2 hat2 ⊢
    refine takeD 4 (some 6) (.slice ao1 L.length cap1) (by kernel_rfl) (by kernel_rfl) (by kernel_rfl) (by kernel_rfl) (by kernel_rfl) (fun _ _ _ h => h) (yi_pure (v0 := .slice ao1 L.length cap1) (by kernel_rfl) (fun _ => by kernel_rfl) rfl) hS4 ?_
    simp only [Act.put, List.setIfInBounds_toArray, List.set_cons_succ, List.set_cons_zero]
    refine takeD 5 (some 7) (.slice ao2 M2.length cap2) (by kernel_rfl) (by kernel_rfl) (by kernel_rfl) (by kernel_rfl) (by kernel_rfl) (fun _ _ _ h => h) (yi_pure (v0 := .slice ao2 M2.length cap2) (by kernel_rfl) (fun _ => by kernel_rfl) rfl) hS4 ?_
    simp only [Act.put, List.setIfInBounds_toArray, List.set_cons_succ, List.set_cons_zero]
    refine wpAnyH_done (by kernel_rfl) ?_ _
    have HB4 := Lib.hid hS4.2.2
    have HA1 := Lib.hid hat1
    have HA2 := Lib.hid hat2
    clear es hwn hW hcm1 hcm2 hcp1 hcp2 hlp hlp3
    clear hS4 hSd hat1 hat2 hL hM2 hinfo hinfo' hu HL1 HL2
    go_wp2
    go_loopw [8] (fun i wr => ∃ k : Nat, k ≤ L.length ∧ i = .int .i64 (k : Int) ∧ Below uu4.heap.size uu4 wr) (fun i _ => L.length - (intOf i).toNat)
    case atStart => exact ⟨0, Nat.zero_le _, rfl, Below.refl _ _⟩
    case round =>
      obtain ⟨k, hk, rfl, hbr⟩ := hrel
      by_cases hlt : k < L.length
      · obtain ⟨x1, hx1⟩ : ∃ x1, L[k]? = some x1 := ⟨L[k], List.getElem?_eq_getElem hlt⟩
        have hmem := List.mem_of_getElem? hx1
        obtain ⟨b1, hao1, hb1, hcell1⟩ := HA1.out (by omega)
        cases hao1
        have hA1 := (hcell1 k x1 hx1)
        obtain ⟨a, b, kk, ha, hb64, hxe⟩ := HSQ.out x1 hmem
        have hLS := HLS.out x1 hmem
        have hAr := hA1.below hbr
        have hw64 : wrap64 (a : Int) = (a : Int) := IntWalk.wrap64_in _ ⟨by omega, by omega⟩
        have m0 := hAr.five.1
        rw [show x1.1 = (a : Int) by rw [hxe]; rfl] at m0 hLS
        have HH := Lib.hid hlt
        have HA := Lib.hid hA1
        clear hcell1 hx1 hmem hA1 hAr hk hxe ha hb64
        have HB1 := Lib.hid hb1
        clear hb1
        by_cases hna : a = n
        · subst hna
          have HBR := Lib.hid hbr
          clear hLS hbr
          go_wp2
          have HS := step_num' k L.length HH.out
          exact ⟨⟨k + 1, HH.out, by first | exact HS.1 | exact (step_num k L.length HH.out (by omega)).1, HBR.out⟩, by first | exact HS.2 | exact (step_num k L.length HH.out (by omega)).2⟩
        · have d3 : ((a : Int) == (n : Int)) = false := by simp; omega
          have HIN := Lib.hid (hLS (by omega))
          have HBR := Lib.hid hbr
          clear hna hLS hbr
          have hm2 : decide ((k : Int) < (L.length : Int)) = true := by simp; exact HH.out
          go_wp2
          try rw [hm2]
          clear hm2
          go_loopw [9, 10] (fun v j wr => ∃ q : Nat, q ≤ M2.length ∧ v = .bool (anyTo M2 x1 q) ∧ j = .int .i64 (q : Int) ∧ Below uu4.heap.size uu4 wr) (fun _ j _ => M2.length - (intOf j).toNat)
          case atStart => exact ⟨0, Nat.zero_le _, rfl, rfl, HBR.out⟩
          case round =>
            obtain ⟨q, hq, rfl, rfl, hbr⟩ := hrel
            by_cases hlq : q < M2.length
            · obtain ⟨y, hy⟩ : ∃ y, M2[q]? = some y := ⟨M2[q], List.getElem?_eq_getElem hlq⟩
              obtain ⟨b2, hao2, hb2, hcell2⟩ := HA2.out (by omega)
              cases hao2
              have hAy := (hcell2 q y hy).below hbr
              have hAx := HA.out.below hbr
              have hsu := anyTo_succ x1 hy
              have HQ := Lib.hid hlq
              have HBQ := Lib.hid hbr
              obtain ⟨v0, hv0⟩ : ∃ v0, anyTo M2 x1 q = v0 := ⟨_, rfl⟩
              rw [hv0] at hsu ⊢
              have HSU := Lib.hid hsu
              clear hcell2 hy hsu hv0 hbr hq hb2
              cases v0
              · go_wp2_with fail
                refine region_below (by kernel_rfl) (by kernel_rfl) ?_
                repeat (first
                  | (go_big_quiet_want; refine quiet_load_atC _ rfl ⟨b2, q * 5, y, rfl, hAy, ?_⟩; simp only [Act.put, List.setIfInBounds_toArray, List.set_cons_succ, List.set_cons_zero]; go_big_quiet_on)
                  | (go_big_quiet_want; refine quiet_load_atC _ rfl ⟨b1, k * 5, x1, rfl, hAx, ?_⟩; simp only [Act.put, List.setIfInBounds_toArray, List.set_cons_succ, List.set_cons_zero]; go_big_quiet_on)
                  | (go_big_quiet_want; refine quiet_eql_mv _ _ _ rfl ⟨y, x1, rfl, rfl, ?_⟩; simp only [Act.put, List.setIfInBounds_toArray, List.set_cons_succ, List.set_cons_zero]; go_big_quiet_on)
                  | go_big_quiet_step (fail))
                refine wpQuiet_nil ?_
                intro w7 hb7
                have HB7 := Lib.hid (below_next HBQ.out hb7)
                clear hb7
                go_wp2
                have HS := step_num' q M2.length HQ.out
                have HS2 := step_num q M2.length HQ.out (by omega)
                exact ⟨⟨q + 1, HQ.out, by rw [HSU.out, Bool.false_or], by first | exact HS.1 | exact HS2.1, HB7.out⟩, by first | exact HS.2 | exact HS2.2⟩
              · go_wp2_with fail
                refine region_below (by kernel_rfl) (by kernel_rfl) ?_
                repeat (go_big_quiet_step (fail))
                refine wpQuiet_nil ?_
                intro w7 hb7
                have HB7 := Lib.hid (below_next HBQ.out hb7)
                clear hb7
                go_wp2
                have HS := step_num' q M2.length HQ.out
                have HS2 := step_num q M2.length HQ.out (by omega)
                exact ⟨⟨q + 1, HQ.out, by rw [HSU.out, Bool.true_or], by first | exact HS.1 | exact HS2.1, HB7.out⟩, by first | exact HS.2 | exact HS2.2⟩
            · obtain rfl : q = M2.length := by omega
              have hany := anyTo_mem HIN.out
              rw [hany]
              have HBQ := Lib.hid hbr
              clear hbr hq hlq hany
              go_wp2
              have HS := step_num' k L.length HH.out
              have HS2 := step_num k L.length HH.out (by omega)
              exact ⟨⟨k + 1, HH.out, by first | exact HS.1 | exact HS2.1, HBQ.out⟩, by first | exact HS.2 | exact HS2.2⟩
      · obtain rfl : k = L.length := by omega
        have HF := Lib.hid (below_next HB4.out hbr)
        clear hbr hk hlt
        go_wp2_with (go_at_call 15; refine (awake13_any _ (HT.out _ HF.out)).mono ?_; rintro e w9 ⟨rfl, hb9⟩)
        go_ret
        exact ⟨rfl, below_next HF.out hb9⟩

end Go.Proofs.YtlphjjekamhnlaaDoor
