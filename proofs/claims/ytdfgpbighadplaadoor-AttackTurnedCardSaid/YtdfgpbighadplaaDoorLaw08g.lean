/- The laws of layer 8: AttackTurned. -/
import Derived.Test.YtdfgpbighadplaaDoorTurn08
namespace Go.Proofs.YtdfgpbighadplaaDoor
open Go.RowKit Go.Sort

theorem tpc_0 (x : Int) (h : (x != 0) = false) : tpc x = x := by
  have : x = 0 := by simpa using h
  unfold tpc; rw [if_pos this, this]
theorem tpc_1 (x : Int) (h : (x != 0) = true) : tpc x = (x + 8) % 16 := by
  have : x ≠ 0 := by simpa using h
  unfold tpc; rw [if_neg this]
theorem okL_bd (x : Int) (h0 : 0 ≤ x) (h1 : x ≤ 255) : okL x = true → x ≤ 15 := all8 (fun x => okL x = true → x ≤ 15) (by decide +kernel) x h0 h1

set_option maxRecDepth 100000 in
set_option maxHeartbeats 4000000 in
theorem turned_stop (c : Nat → Int) (s : Int) (w : World) (hc : PosOk c) (hT : Tb w) (h : lawB c = false ∨ (lawB c = true ∧ (c 0 = 7 ∨ (c 0 ≠ 7 ∧ 1 < c 78)))) :
    Calls Tryd.prog 8 #[.agg (posC c), .int .i64 s] w fun e w' => e = .returned (.bool true) ∧ Below w.heap.size w w' := by
  have Hc := Lib.hid (pos_bd hc)
  have HT := Lib.hid (fun W (hb : Below w.heap.size w W) => tb_below hT hb)
  clear hT hc
  have hb0 : Below w.heap.size w (w.alloc (.cells (posC c) 31)) := (Below.refl _ _).alloc (Nat.le_refl _) _
  have hp := PosAt.new w c
  rcases h with hl | ⟨hl, h7 | ⟨h7, h1⟩⟩
  · go_enter Tryd.func8, Tryd.ntmps8
    go_wp2_with (first
      | ((with_reducible refine wp_load_box rfl _ rfl ?_); refine ⟨_, _, rfl, (by assumption), ?_⟩)
      | (go_at_call 20; refine (lawful_eq c false _ Hc.out hl).mono ?_; rintro e u ⟨rfl, hb⟩; replace hp := hp.below hb; replace hb0 := below_next hb0 hb; clear hb)
      | (go_at_call 13; refine (awake08_any _ (HT.out _ hb0)).mono ?_; rintro e u ⟨rfl, hb⟩; replace hb0 := below_next hb0 hb; clear hb))
    go_ret
    exact ⟨rfl, hb0⟩
  · have e7 : (c 0 == 7) = true := by simpa using h7
    clear h7
    go_enter Tryd.func8, Tryd.ntmps8
    go_wp2_with (first
      | ((with_reducible refine wp_load_box rfl _ rfl ?_); refine ⟨_, _, rfl, (by assumption), ?_⟩)
      | (go_at_call 20; refine (lawful_eq c true _ Hc.out hl).mono ?_; rintro e u ⟨rfl, hb⟩; replace hp := hp.below hb; replace hb0 := below_next hb0 hb; clear hb; have hc0 := hp.cell (i := 0) (by omega); change u.cell? _ = some (.int .u8 (c 0)) at hc0)
      | (go_at_call 13; refine (awake08_any _ (HT.out _ hb0)).mono ?_; rintro e u ⟨rfl, hb⟩; replace hb0 := below_next hb0 hb; clear hb))
    go_ret
    exact ⟨rfl, hb0⟩
  · have e7 : (c 0 == 7) = false := by simpa using h7
    clear h7
    go_enter Tryd.func8, Tryd.ntmps8
    go_wp2_with (first
      | ((with_reducible refine wp_load_box rfl _ rfl ?_); refine ⟨_, _, rfl, (by assumption), ?_⟩)
      | (go_at_call 20; refine (lawful_eq c true _ Hc.out hl).mono ?_; rintro e u ⟨rfl, hb⟩; replace hp := hp.below hb; replace hb0 := below_next hb0 hb; clear hb; have hc0 := hp.cell (i := 0) (by omega); change u.cell? _ = some (.int .u8 (c 0)) at hc0; have hc78 := hp.cell (i := 78) (by omega); change u.cell? _ = some (.int .u8 (c 78)) at hc78)
      | (go_at_call 13; refine (awake08_any _ (HT.out _ hb0)).mono ?_; rintro e u ⟨rfl, hb⟩; replace hb0 := below_next hb0 hb; clear hb))
    go_ret
    exact ⟨rfl, hb0⟩

set_option maxRecDepth 100000 in
set_option maxHeartbeats 4000000 in
theorem turned_go (c : Nat → Int) (s : Int) (w : World) (hc : PosOk c) (hT : Tb w) (hl : lawB c = true) (h7 : c 0 ≠ 7) (h1 : c 78 ≤ 1) :
    Calls Tryd.prog 8 #[.agg (posC c), .int .i64 s] w fun e w' => e = .returned (.bool true) ∧ Below w.heap.size w w' := by
  have Hc := Lib.hid (pos_bd hc)
  have HT := Lib.hid (fun W (hb : Below w.heap.size w W) => tb_below hT hb)
  have hv := (pos_u8 hc (i := 0) (by omega) rfl).1
  have ht := (pos_u8 hc (i := 78) (by omega) rfl).1
  clear hT hc
  have hb0 : Below w.heap.size w (w.alloc (.cells (posC c) 31)) := (Below.refl _ _).alloc (Nat.le_refl _) _
  have hp := PosAt.new w c
  have e7 : (c 0 == 7) = false := by simpa using h7
  have H7 := Lib.hid h7
  clear h7
  obtain ⟨ns, hns, es⟩ := u64mod s
  have hfs := flp_lt ns hns
  have exs := flp_xor ns hns
  go_enter Tryd.func8, Tryd.ntmps8
  go_wp2_with (first
    | ((with_reducible refine wp_load_box rfl _ rfl ?_); refine ⟨_, _, rfl, (by assumption), ?_⟩)
    | ((with_reducible refine wp_store_box rfl _ _ rfl ?_); refine ⟨_, _, rfl, rfl, ⟨_, heap_alloc_new _ _, rfl⟩, ?_⟩; intro V hV hq)
    | (go_at_call 20; refine (lawful_eq c true _ Hc.out hl).mono ?_; rintro e u ⟨rfl, hb⟩; replace hp := hp.below hb; replace hb0 := below_next hb0 hb; clear hb; have hc0 := hp.cell (i := 0) (by omega); change u.cell? _ = some (.int .u8 (c 0)) at hc0; have hc78 := hp.cell (i := 78) (by omega); change u.cell? _ = some (.int .u8 (c 78)) at hc78))
  have hlt := hp.lt
  have hz := hb0.size
  have HP := Lib.hid (hV.pos (hp.alloc _) (Nat.ne_of_lt hlt))
  have HB := Lib.hid (hV.below (hb0.alloc hz _) hz)
  have HQ := Lib.hid hq
  clear hV hp hb0 hq hc0 hc78
  generalize u.heap.size = g at HQ hlt hz ⊢
  go_loopw [6, 7] (fun i _ wr => ∃ k : Nat, k ≤ 64 ∧ i = .int .i64 (k : Int) ∧ PosAt wr w.heap.size c ∧ PosAt wr g (turnTo c k) ∧ Below w.heap.size w wr) (fun i _ _ => 64 - (intOf i).toNat)
  case atStart => exact ⟨0, by omega, rfl, HP.out, HQ.out, HB.out⟩
  case round =>
    obtain ⟨k, hk, rfl, hp, hq, hbr⟩ := hrel
    by_cases hlt6 : k < 64
    · have hcl := hp.bd hlt6
      obtain ⟨x0, x1⟩ := Hc.out k hlt6
      have x2 := okL_bd _ x0 x1 ((lawB_iff c).1 hl k hlt6)
      have hfk := flp_lt k hlt6
      have exk := flp_xor k hlt6
      have He := Lib.hid (show turnTo c (k + 1) = upd (turnTo c k) (1 + flp k) (tpc (c (1 + k))) from rfl)
      cases hx : (c (1 + k) != 0)
      · have ht2 := Lib.hid (show tpc (c (1 + k)) = c (1 + k) from tpc_0 _ hx)
        go_wp2_with ((with_reducible refine wp_store_cell rfl _ _ _ rfl ?_); refine ⟨_, _, _, _, _, rfl, rfl, hq, (by omega), pk_board hfk, Tryd.size_u8, ?_⟩; intro V2 hV2 hq2)
        exact ⟨⟨k + 1, by omega, by go_num, hV2.pos hp (Nat.ne_of_lt hlt), by rw [He.out, ht2.out]; exact hq2, hV2.below hbr hz⟩, by simp [intOf]; omega⟩
      · have ht2 := Lib.hid (show tpc (c (1 + k)) = (c (1 + k) + 8) % 16 from tpc_1 _ hx)
        go_wp2_with ((with_reducible refine wp_store_cell rfl _ _ _ rfl ?_); refine ⟨_, _, _, _, _, rfl, rfl, hq, (by omega), pk_board hfk, Tryd.size_u8, ?_⟩; intro V2 hV2 hq2)
        exact ⟨⟨k + 1, by omega, by go_num, hV2.pos hp (Nat.ne_of_lt hlt), by rw [He.out, ht2.out]; exact hq2, hV2.below hbr hz⟩, by simp [intOf]; omega⟩
    · obtain rfl : k = 64 := by omega
      have hc78 := hp.cell (i := 78) (by omega)
      change wr.cell? _ = some (.int .u8 (c 78)) at hc78
      go_wp2_with ((with_reducible refine wp_store_cell rfl _ _ _ rfl ?_); refine ⟨_, _, _, _, _, rfl, rfl, hq, (by omega), rfl, Tryd.size_u8, ?_⟩; intro V2 hV2 hq2)
      replace hq2 : PosAt V2 g (turnC c) := hq2
      replace hp := hV2.pos hp (Nat.ne_of_lt hlt)
      replace hbr := hV2.below hbr hz
      clear hV2 hq hc78
      have HT2 := Lib.hid (HT.out _ hbr)
      have hB1 := Hc.out
      have hB2 := turnC_bd c Hc.out
      refine region_below (by kernel_rfl) (by kernel_rfl) ?_
      simp only [Act.put]
      repeat (first
        | go_big_quiet_step (first
          | (go_at_call 14; exact quiet_below (from_any _ _ _ (by assumption) (tb_grow HT2.out))))
        | (go_big_quiet_want; refine quiet_load_box _ rfl ⟨_, _, rfl, (by assumption), ?_⟩; simp only [Act.put, List.setIfInBounds_toArray, List.set_cons_succ, List.set_cons_zero]; go_big_quiet_on))
      refine wpQuiet_nil ?_
      intro w3 hb3
      replace hp := hp.below hb3
      replace hq2 := hq2.below hb3
      replace hbr := below_next hbr hb3
      clear hb3 HT2
      go_wp2
      have hbits := fun a ha => from_turn Hc.out hl ns a hns ha
      generalize K.from c ns = X at hbits ⊢
      generalize K.from (turnC c) (flp ns : Nat) = Y at hbits ⊢
      have Hbits := Lib.hid hbits
      have HP2 := Lib.hid hp
      have HQ2 := Lib.hid hq2
      have HB2 := Lib.hid hbr
      clear hbits hp hq2 hbr HP HB HQ hk hlt6 exs
      go_loopw [10] (fun i wr => ∃ k : Nat, k ≤ 64 ∧ i = .int .i64 (k : Int) ∧ PosAt wr w.heap.size c ∧ PosAt wr g (turnC c) ∧ Below w.heap.size w wr) (fun i _ => 64 - (intOf i).toNat)
      case atStart => exact ⟨0, by omega, rfl, HP2.out, HQ2.out, HB2.out⟩
      case round =>
        obtain ⟨k, hk, rfl, hp, hq, hbr⟩ := hrel
        by_cases hlt6 : k < 64
        · have hfk := flp_lt k hlt6
          have exk := flp_xor k hlt6
          have hd1 : U X / 2 ^ k = U (bShr X k) := by have := bv_shr_nat X k; rwa [Nat.min_eq_left (by omega)] at this
          have hd2 : U Y / 2 ^ flp k = U (bShr Y (flp k)) := by have := bv_shr_nat Y (flp k); rwa [Nat.min_eq_left (by omega)] at this
          have hne : (bv1 (bit (bShr X k) 0) != bv1 (bit (bShr Y (flp k)) 0)) = false := by
            rw [bit_shr, bit_shr, Nat.add_zero, Nat.add_zero, Hbits.out k hlt6]; simp
          go_wp2
          exact ⟨⟨k + 1, by omega, by go_num, hp, hq, hbr⟩, by simp [intOf]; omega⟩
        · obtain rfl : k = 64 := by omega
          have HP3 := Lib.hid hp
          have HQ3 := Lib.hid hq
          have HB3 := Lib.hid hbr
          clear hp hq hbr HP2 HQ2 HB2 hk hlt6 Hbits
          go_wp2
          go_loopw [11, 12, 13] (fun p q i wr => ∃ k : Nat, k ≤ 64 ∧ i = .int .i64 (k : Int) ∧ p = .int .i64 (cntTo c 6 k : Int) ∧ q = .int .i64 (cntTo c 14 k : Int) ∧ PosAt wr w.heap.size c ∧ PosAt wr g (turnC c) ∧ Below w.heap.size w wr) (fun _ _ i _ => 64 - (intOf i).toNat)
          case atStart => exact ⟨0, by omega, rfl, rfl, rfl, HP3.out, HQ3.out, HB3.out⟩
          case round =>
            obtain ⟨k, hk, rfl, rfl, rfl, hp, hq, hbr⟩ := hrel
            have l6 := cntTo_le c 6 k
            have l14 := cntTo_le c 14 k
            by_cases hlt6 : k < 64
            · have hcl := hp.bd hlt6
              have e6 := Lib.hid (show cntTo c 6 (k + 1) = if c (1 + k) == 6 then cntTo c 6 k + 1 else cntTo c 6 k from rfl)
              have e14 := Lib.hid (show cntTo c 14 (k + 1) = if c (1 + k) == 14 then cntTo c 14 k + 1 else cntTo c 14 k from rfl)
              cases h6 : (c (1 + k) == 6) <;> cases h14 : (c (1 + k) == 14)
              all_goals
                rw [h6] at e6
                rw [h14] at e14
                go_wp2
                refine ⟨⟨k + 1, by omega, by go_num, ?_, ?_, hp, hq, hbr⟩, by simp [intOf]; omega⟩
                · rw [e6.out]; first | rfl | go_num
                · rw [e14.out]; first | rfl | go_num
            · obtain rfl : k = 64 := by omega
              have hv2 : 0 ≤ turnC c 0 := by rw [turnC_0]; exact hv
              have HT2 := Lib.hid (HT.out _ hbr)
              by_cases o6 : 1 < cntTo c 6 64
              · go_wp2_with (go_at_call 13; refine (awake08_any _ HT2.out).mono ?_; rintro e u ⟨rfl, hb⟩; replace hbr := below_next hbr hb; clear hb)
                go_ret
                exact ⟨rfl, hbr⟩
              · by_cases o14 : 1 < cntTo c 14 64
                · go_wp2_with (go_at_call 13; refine (awake08_any _ HT2.out).mono ?_; rintro e u ⟨rfl, hb⟩; replace hbr := below_next hbr hb; clear hb)
                  go_ret
                  exact ⟨rfl, hbr⟩
                · have q0 : (K.check c 0 == K.check (turnC c) 1) = true := by
                    have := check_turn hB1 hl 0 (.inl rfl) H7.out (oneK_of c 0 6 hB1 (.inl ⟨rfl, rfl⟩) (by omega))
                    rw [check_eq c 0 hB1 (by omega), check_eq _ 1 hB2 (by omega), ← this]
                    simp
                  have q1 : (K.check c 1 == K.check (turnC c) 0) = true := by
                    have := check_turn hB1 hl 1 (.inr rfl) H7.out (oneK_of c 1 14 hB1 (.inr ⟨rfl, rfl⟩) (by omega))
                    rw [check_eq c 1 hB1 (by omega), check_eq _ 0 hB2 (by omega), ← this]
                    simp
                  go_wp2
                  refine region_below (by kernel_rfl) (by kernel_rfl) ?_
                  repeat (first
                    | go_big_quiet_step (first
                      | (go_at_call 16; exact quiet_below (check_any _ _ _ (by assumption) (tb_grow HT2.out) (by assumption) (by decide)))
                      | (go_at_call 13; exact quiet_below (awake08_any _ (tb_grow HT2.out))))
                    | (go_big_quiet_want; refine quiet_load_box _ rfl ⟨_, _, rfl, (by assumption), ?_⟩; simp only [Act.put, List.setIfInBounds_toArray, List.set_cons_succ, List.set_cons_zero]; go_big_quiet_on))
                  refine wpQuiet_nil ?_
                  intro w4 hb4
                  replace hbr := below_next hbr hb4
                  clear hb4 hp hq
                  go_wp2
                  go_ret
                  exact ⟨rfl, hbr⟩

theorem attackTurned_walk (c : Nat → Int) (s : Int) (w : World) (hc : PosOk c) (hT : Tb w) :
    Calls Tryd.prog 8 #[.agg (posC c), .int .i64 s] w fun e w' => e = .returned (.bool true) ∧ Below w.heap.size w w' := by
  cases hl : lawB c
  · exact turned_stop c s w hc hT (.inl hl)
  · by_cases h7 : c 0 = 7
    · exact turned_stop c s w hc hT (.inr ⟨hl, .inl h7⟩)
    · by_cases h1 : c 78 ≤ 1
      · exact turned_go c s w hc hT hl h7 h1
      · exact turned_stop c s w hc hT (.inr ⟨hl, .inr ⟨h7, by omega⟩⟩)

end Go.Proofs.YtdfgpbighadplaaDoor
