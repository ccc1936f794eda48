/- Several texts in one: Law18f. -/

import Derived.Test.YtgkndhpolcnjbaaGreatDoorQy5
import Derived.Test.YtgkndhpolcnjbaaGreatDoorQd
namespace Go.Proofs.YtgkndhpolcnjbaaGreatDoor
open Go.RowKit Go.Sort
def stdP (c : Nat → Int) : Nat → Int := upd (upd c 0 0) 78 (c 78 % 2)
def isK (c : Nat → Int) (color : Int) (s : Nat) : Bool := c (1 + s) == 8 * color + 6
def kcnt (c : Nat → Int) (color : Int) : Nat → Nat
  | 0 => 0
  | n + 1 => kcnt c color n + if isK c color n = true then 1 else 0
def stdOk (c : Nat → Int) : Bool := lawB c && (decide (kcnt c 0 64 < 2) && (decide (kcnt c 1 64 < 2) && (decide (-1 ≤ c 83) && decide (c 83 < 64))))
theorem kcnt_le (c : Nat → Int) (color : Int) : ∀ n, kcnt c color n ≤ n
  | 0 => Nat.le_refl _
  | n + 1 => by
    have := kcnt_le c color n
    rw [kcnt]
    split <;> omega
theorem stdP_at (c : Nat → Int) (s : Nat) (hs : s < 64) : stdP c (1 + s) = c (1 + s) := by
  unfold stdP
  rw [upd_other _ _ _ _ (by omega), upd_other _ _ _ _ (by omega)]
theorem zero31_size : Tryz.zeroCells31.size = 88 := by kernel_rfl
theorem Tryz.size_Position : (Tryz.prog.info? 31).map (·.size) = some 88 := by kernel_rfl
theorem Tryz.size_int' : (Tryz.prog.info? 3).map (·.size) = some 1 := by kernel_rfl
set_option maxRecDepth 100000 in
set_option maxHeartbeats 4000000 in
theorem standard_any (c : Nat → Int) (w : World) (hc : PosOk c) :
    Calls Tryz.prog 22 #[.agg (posC c)] w fun e w' => e = .returned (.tuple #[.agg (posC (stdP c)), .bool (stdOk c)]) ∧ Below w.heap.size w w' := by
  have Hc := Lib.hid (pos_bd hc)
  obtain ⟨t0, t1⟩ := pos_u8 hc (i := 78) (by decide) rfl
  have hP0 : PosAt (w.alloc (.cells (((posC c).setIfInBounds 0 (.int .u8 0)).setIfInBounds 78 (.int .u8 (c 78 % 2))) 31)) w.heap.size (stdP c) := by
    have e : ((posC c).setIfInBounds 0 (.int .u8 0)).setIfInBounds 78 (.int .u8 (c 78 % 2)) = posC (stdP c) := by
      have h1 := posC_upd c 0 0 (by decide)
      rw [show pk 0 = .u8 from rfl] at h1
      have h2 := posC_upd (upd c 0 0) 78 (c 78 % 2) (by decide)
      rw [show pk 78 = .u8 from rfl] at h2
      rw [h1, h2]; rfl
    rw [e]; exact PosAt.new w _
  have hb0 : Below w.heap.size w (w.alloc (.cells (((posC c).setIfInBounds 0 (.int .u8 0)).setIfInBounds 78 (.int .u8 (c 78 % 2))) 31)) := (Below.refl _ _).alloc (Nat.le_refl _) _
  clear hc
  go_enter Tryz.func22, Tryz.ntmps22
  go_wp2_with fail
  have hz0 := hb0.size
  have hz1 : (w.alloc (.cells (((posC c).setIfInBounds 0 (.int .u8 0)).setIfInBounds 78 (.int .u8 (c 78 % 2))) 31)).heap.size = w.heap.size + 1 := by simp
  revert hP0 hb0 hz0 hz1
  generalize w.alloc (.cells (((posC c).setIfInBounds 0 (.int .u8 0)).setIfInBounds 78 (.int .u8 (c 78 % 2))) 31) = W0
  intro hP0 hb0 hz0 hz1
  have hR0 := RowAt.new W0 Tryz.zeroCells31 31
  rw [hz1] at hR0
  have hP1 := Lib.hid ((hP0.alloc (.cells Tryz.zeroCells31 31)).alloc (.cells #[.int .i64 0, .int .i64 0] 98))
  have hR1 := Lib.hid (hR0.alloc (.cells #[.int .i64 0, .int .i64 0] 98))
  have hK1 := RowAt.new (W0.alloc (.cells Tryz.zeroCells31 31)) #[.int .i64 0, .int .i64 0] 98
  rw [World.size_alloc, hz1] at hK1
  have HK1 := Lib.hid hK1
  have HB1 := Lib.hid ((hb0.alloc hz0 (.cells Tryz.zeroCells31 31)).alloc (by simp; omega) (.cells #[.int .i64 0, .int .i64 0] 98))
  clear hP0 hR0 hK1 hb0 hz0 hz1
  go_loopw [5] (fun i wr => ∃ n : Nat, n ≤ 64 ∧ i = .int .i64 (n : Int) ∧ lawB c = lawTo c n (64 - n) ∧ PosAt wr w.heap.size (stdP c) ∧ RowAt wr (w.heap.size + 1) 31 Tryz.zeroCells31 ∧ RowAt wr (w.heap.size + 1 + 1) 98 #[.int .i64 (kcnt c 0 n : Int), .int .i64 (kcnt c 1 n : Int)] ∧ Below w.heap.size w wr) (fun i _ => 64 - (intOf i).toNat)
  case atStart => exact ⟨0, by omega, rfl, rfl, hP1.out, hR1.out, HK1.out, HB1.out⟩
  case round =>
    obtain ⟨n, hn, rfl, hl, hp, hR, hK, hbr⟩ := hrel
    have He := Lib.hid hl
    clear hl hP1 hR1 HK1 HB1
    by_cases hlt : n < 64
    · obtain ⟨x0, x1⟩ := Hc.out n hlt
      have hcl := hp.bd hlt
      rw [stdP_at c n hlt] at hcl
      have hs := okL_spec _ x0 x1
      have hst : lawTo c n (64 - n) = (okL (c (1 + n)) && lawTo c (n + 1) (64 - (n + 1))) := by rw [show 64 - n = (64 - (n + 1)) + 1 by omega, lawTo]
      have hm : (c (1 + n)).tmod 8 = c (1 + n) % 8 := Int.tmod_eq_emod_of_nonneg x0
      have He2 := Lib.hid (He.out.trans hst)
      have hk0 : kcnt c 0 (n + 1) = kcnt c 0 n + if (c (1 + n) == 6) = true then 1 else 0 := rfl
      have hk1 : kcnt c 1 (n + 1) = kcnt c 1 n + if (c (1 + n) == 14) = true then 1 else 0 := rfl
      have l0 := kcnt_le c 0 n
      have l1 := kcnt_le c 1 n
      clear He hst
      have HS := Lib.hid hs
      clear hs
      have c0 := hK.cell 0
      have c1 := hK.cell 1
      simp only [List.getElem?_toArray, List.getElem?_cons_zero, List.getElem?_cons_succ] at c0 c1
      generalize kcnt c 0 n = n0 at *
      generalize kcnt c 1 n = n1 at *
      generalize c (1 + n) = x at *
      by_cases hz : x = 0
      · have ho := Lib.hid (show okL x = true by rw [hz]; rfl)
        subst hz
        rw [if_neg (by decide)] at hk0 hk1
        have K0 := Lib.hid hk0
        have K1 := Lib.hid hk1
        clear hk0 hk1
        go_wp2_with fail
        exact ⟨⟨n + 1, by omega, by go_num, by rw [He2.out, ho.out]; rfl, hp, hR, by rw [K0.out, K1.out]; exact hK, hbr⟩, by simp [intOf]; omega⟩
      · have hb : (x != 0) = true := by simpa using hz
        have hd : decide (x ≠ 0) = true := by simpa using hz
        rw [hd] at HS
        clear hd
        by_cases hbad : 15 < x ∨ x % 8 < 1 ∨ 6 < x % 8
        · have ho := Lib.hid (show stdOk c = false by
            have : okL x = false := by
              rw [HS.out]
              rcases hbad with h | h | h <;> simp [h]
            unfold stdOk; rw [He2.out, this]; rfl)
          clear hk0 hk1 hK c0 c1
          by_cases h15 : 15 < x
          · clear hbad
            go_wp2_with (first
                | ((with_reducible refine wp_load_box rfl _ rfl ?_); refine ⟨_, _, rfl, hp, ?_⟩)
                | ((with_reducible refine wp_store_box rfl _ _ rfl ?_); refine ⟨w.heap.size + 1, stdP c, rfl, rfl, ⟨_, hR.heap, zero31_size⟩, ?_⟩; intro V hV hP2; replace hbr := hV.below hbr (by omega)))
            refine bodyPost_ret (v := .tuple #[.agg (posC (stdP c)), .bool false]) (results_cell_tmp Tryz.results22 _ _ (w.heap.size + 1) 31 _ _ _ rfl rfl ⟨hP2.heap⟩ Tryz.underlying31 rfl Tryz.size_Position) rfl ⟨by rw [ho.out], hbr⟩
          · by_cases h8 : x % 8 < 1
            · clear hbad
              go_wp2_with (first
                | ((with_reducible refine wp_load_box rfl _ rfl ?_); refine ⟨_, _, rfl, hp, ?_⟩)
                | ((with_reducible refine wp_store_box rfl _ _ rfl ?_); refine ⟨w.heap.size + 1, stdP c, rfl, rfl, ⟨_, hR.heap, zero31_size⟩, ?_⟩; intro V hV hP2; replace hbr := hV.below hbr (by omega)))
              refine bodyPost_ret (v := .tuple #[.agg (posC (stdP c)), .bool false]) (results_cell_tmp Tryz.results22 _ _ (w.heap.size + 1) 31 _ _ _ rfl rfl ⟨hP2.heap⟩ Tryz.underlying31 rfl Tryz.size_Position) rfl ⟨by rw [ho.out], hbr⟩
            · have h6 : 6 < x % 8 := by omega
              clear hbad
              go_wp2_with (first
                | ((with_reducible refine wp_load_box rfl _ rfl ?_); refine ⟨_, _, rfl, hp, ?_⟩)
                | ((with_reducible refine wp_store_box rfl _ _ rfl ?_); refine ⟨w.heap.size + 1, stdP c, rfl, rfl, ⟨_, hR.heap, zero31_size⟩, ?_⟩; intro V hV hP2; replace hbr := hV.below hbr (by omega)))
              refine bodyPost_ret (v := .tuple #[.agg (posC (stdP c)), .bool false]) (results_cell_tmp Tryz.results22 _ _ (w.heap.size + 1) 31 _ _ _ rfl rfl ⟨hP2.heap⟩ Tryz.underlying31 rfl Tryz.size_Position) rfl ⟨by rw [ho.out], hbr⟩
        · have ho := Lib.hid (show okL x = true by
            rw [HS.out, decide_eq_false (show ¬ 15 < x by omega), decide_eq_false (show ¬ x % 8 < 1 by omega), decide_eq_false (show ¬ 6 < x % 8 by omega)]; rfl)
          by_cases h6 : x % 8 = 6
          · rcases (show x = 6 ∨ x = 14 by omega) with rfl | rfl
            · rw [if_pos (by decide)] at hk0
              rw [if_neg (by decide)] at hk1
              have K0 := Lib.hid hk0
              have K1 := Lib.hid hk1
              clear hk0 hk1 hbad hz
              go_wp2_with (first
                | ((with_reducible refine wp_store_at rfl _ _ _ rfl ?_); refine ⟨w.heap.size + 1 + 1, _, _, _, _, rfl, rfl, rfl, hK, (by simp), Tryz.size_int', ?_⟩; intro V hV hK2; replace hp := hV.pos hp (by omega); replace hR := hV.row hR (by omega); replace hbr := hV.below hbr (by omega)))
              refine ⟨⟨n + 1, by omega, by go_num, by rw [He2.out, ho.out]; rfl, hp, hR, ?_, hbr⟩, by simp [intOf]; omega⟩
              rw [K0.out, K1.out]; exact hK2
            · rw [if_neg (by decide)] at hk0
              rw [if_pos (by decide)] at hk1
              have K0 := Lib.hid hk0
              have K1 := Lib.hid hk1
              clear hk0 hk1 hbad hz
              go_wp2_with (first
                | ((with_reducible refine wp_store_at rfl _ _ _ rfl ?_); refine ⟨w.heap.size + 1 + 1, _, _, _, _, rfl, rfl, rfl, hK, (by simp), Tryz.size_int', ?_⟩; intro V hV hK2; replace hp := hV.pos hp (by omega); replace hR := hV.row hR (by omega); replace hbr := hV.below hbr (by omega)))
              refine ⟨⟨n + 1, by omega, by go_num, by rw [He2.out, ho.out]; rfl, hp, hR, ?_, hbr⟩, by simp [intOf]; omega⟩
              rw [K0.out, K1.out]; exact hK2
          · rw [if_neg (by simp; omega)] at hk0 hk1
            have K0 := Lib.hid hk0
            have K1 := Lib.hid hk1
            clear hk0 hk1
            have b1 : ¬ 15 < x := by omega
            have b2 : ¬ x % 8 < 1 := by omega
            have b3 : ¬ 6 < x % 8 := by omega
            clear hbad
            go_wp2_with fail
            exact ⟨⟨n + 1, by omega, by go_num, by rw [He2.out, ho.out]; rfl, hp, hR, by rw [K0.out, K1.out]; exact hK, hbr⟩, by simp [intOf]; omega⟩
    · obtain rfl : n = 64 := by omega
      have ho : stdOk c = (decide (kcnt c 0 64 < 2) && (decide (kcnt c 1 64 < 2) && (decide (-1 ≤ c 83) && decide (c 83 < 64)))) := by
        unfold stdOk; rw [He.out]; rfl
      have hu := Tryz.underlying31
      have hinfo : (Tryz.prog.info? 31).map (·.size) = some (posL (stdP c)).length := by rw [Tryz.infoPos]; simp [posL]
      generalize kcnt c 0 64 = n0 at *
      generalize kcnt c 1 64 = n1 at *
      obtain ⟨b0, d0, e0⟩ : ∃ b0, decide ((n0 : Int) < 2) = b0 ∧ decide (n0 < 2) = b0 := ⟨_, rfl, by rw [Bool.eq_iff_iff]; simp; omega⟩
      obtain ⟨b1, d1, e1⟩ : ∃ b1, decide ((n1 : Int) < 2) = b1 ∧ decide (n1 < 2) = b1 := ⟨_, rfl, by rw [Bool.eq_iff_iff]; simp; omega⟩
      obtain ⟨b2, d2⟩ : ∃ b2, decide (-1 ≤ c 83) = b2 := ⟨_, rfl⟩
      rw [e0, e1, d2] at ho
      have ho2 := Lib.hid ho
      clear ho e0 e1
      go_wp2_with fail
      have hS : ∀ w' : World, Below wr.heap.size wr w' → PosAt w' w.heap.size (stdP c) ∧ RowAt w' (w.heap.size + 1 + 1) 98 #[.int .i64 (n0 : Int), .int .i64 (n1 : Int)] ∧ RowAt w' (w.heap.size + 1) 31 Tryz.zeroCells31 ∧ Below w.heap.size w w' := fun w' hb => ⟨hp.below hb, hK.below hb, hR.below hb, below_next hbr hb⟩
      cases b0 <;> cases b1 <;> cases b2
      all_goals
        refine wp_region_held (S := fun w' => PosAt w' w.heap.size (stdP c) ∧ RowAt w' (w.heap.size + 1 + 1) 98 #[.int .i64 (n0 : Int), .int .i64 (n1 : Int)] ∧ (∃ old, w'.heap[w.heap.size + 1]? = some (.cells old 31 (0, 0)) ∧ old.size = 88) ∧ Below w.heap.size w w') (by kernel_rfl) ?_
        have hSd : PosAt wr.drew w.heap.size (stdP c) ∧ RowAt wr.drew (w.heap.size + 1 + 1) 98 #[.int .i64 (n0 : Int), .int .i64 (n1 : Int)] ∧ (∃ old, wr.drew.heap[w.heap.size + 1]? = some (.cells old 31 (0, 0)) ∧ old.size = 88) ∧ Below w.heap.size w wr.drew := ⟨⟨hp.heap⟩, ⟨hK.heap⟩, ⟨_, hR.heap, zero31_size⟩, N.below_drew hbr 1⟩
      · refine takeD 0 (some 46) (.agg (posC (stdP c))) (by kernel_rfl) (by kernel_rfl) (by kernel_rfl) (by kernel_rfl) (by kernel_rfl) (fun _ _ _ h => h) (yieldsIf_load_mid (by kernel_rfl) 31 (.tmp 1) (by kernel_rfl) w.heap.size 0 (by kernel_rfl) (posL (stdP c)) _ (fun _ h => pos_range h.1.heap) hu rfl hinfo) hSd ?_
        simp only [Act.put, List.setIfInBounds_toArray, List.set_cons_succ, List.set_cons_zero]
        refine takeD 1 (some 47) (.pointer (some ⟨w.heap.size + 1 + 1, 0, none⟩)) (by kernel_rfl) (by kernel_rfl) (by kernel_rfl) (by kernel_rfl) (by kernel_rfl) (fun _ _ _ h => h) (yi_pure (v0 := .pointer (some ⟨w.heap.size + 1 + 1, 0, none⟩)) (by kernel_rfl) (fun _ => by kernel_rfl) rfl) hSd ?_
        simp only [Act.put, List.setIfInBounds_toArray, List.set_cons_succ, List.set_cons_zero]
        refine takeD 2 (some 48) (.int .i64 (n0 : Int)) (by kernel_rfl) (by kernel_rfl) (by kernel_rfl) (by kernel_rfl) (by kernel_rfl) (fun _ _ _ h => h) (yi_load (by kernel_rfl) 3 (.tmp 47) (by kernel_rfl) ⟨w.heap.size + 1 + 1, 0, none⟩ (by kernel_rfl) (fun w9 => load_int _ _ w9) (fun w9 h9 => h9.2.1.cell 0)) hSd ?_
        simp only [Act.put, List.setIfInBounds_toArray, List.set_cons_succ, List.set_cons_zero]
        refine takeD 3 (some 49) (.bool false) (by kernel_rfl) (by kernel_rfl) (by kernel_rfl) (by kernel_rfl) (by kernel_rfl) (fun _ _ _ h => h) (yi_pure (v0 := .bool (decide ((n0 : Int) < 2))) (by kernel_rfl) (fun _ => by kernel_rfl) (by rw [d0])) hSd ?_
        simp only [Act.put, List.setIfInBounds_toArray, List.set_cons_succ, List.set_cons_zero]
        refine takeD 4 (some 50) (.bool false) (by kernel_rfl) (by kernel_rfl) (by kernel_rfl) (by kernel_rfl) (by kernel_rfl) (fun _ _ _ h => h) (yi_pure (v0 := .bool false) (by kernel_rfl) (fun _ => by kernel_rfl) rfl) hSd ?_
        simp only [Act.put, List.setIfInBounds_toArray, List.set_cons_succ, List.set_cons_zero]
        refine takeD 5 (some 51) (undef) (by kernel_rfl) (by kernel_rfl) (by kernel_rfl) (by kernel_rfl) (by kernel_rfl) (fun _ _ _ h => h) (yi_none (by kernel_rfl)) hSd ?_
        simp only [Act.put, List.setIfInBounds_toArray, List.set_cons_succ, List.set_cons_zero]
        refine takeD 6 (some 52) (undef) (by kernel_rfl) (by kernel_rfl) (by kernel_rfl) (by kernel_rfl) (by kernel_rfl) (fun _ _ _ h => h) (yi_none (by kernel_rfl)) hSd ?_
        simp only [Act.put, List.setIfInBounds_toArray, List.set_cons_succ, List.set_cons_zero]
        refine takeD 7 (some 53) (undef) (by kernel_rfl) (by kernel_rfl) (by kernel_rfl) (by kernel_rfl) (by kernel_rfl) (fun _ _ _ h => h) (yi_none (by kernel_rfl)) hSd ?_
        simp only [Act.put, List.setIfInBounds_toArray, List.set_cons_succ, List.set_cons_zero]
        refine takeD 8 (some 54) (.bool false) (by kernel_rfl) (by kernel_rfl) (by kernel_rfl) (by kernel_rfl) (by kernel_rfl) (fun _ _ _ h => h) (yi_pure (v0 := .bool false) (by kernel_rfl) (fun _ => by kernel_rfl) rfl) hSd ?_
        simp only [Act.put, List.setIfInBounds_toArray, List.set_cons_succ, List.set_cons_zero]
        refine takeD 9 (some 55) (.bool false) (by kernel_rfl) (by kernel_rfl) (by kernel_rfl) (by kernel_rfl) (by kernel_rfl) (fun _ _ _ h => h) (yi_pure (v0 := .bool false) (by kernel_rfl) (fun _ => by kernel_rfl) rfl) hSd ?_
        simp only [Act.put, List.setIfInBounds_toArray, List.set_cons_succ, List.set_cons_zero]
        refine takeD 10 (some 56) (undef) (by kernel_rfl) (by kernel_rfl) (by kernel_rfl) (by kernel_rfl) (by kernel_rfl) (fun _ _ _ h => h) (yi_none (by kernel_rfl)) hSd ?_
        simp only [Act.put, List.setIfInBounds_toArray, List.set_cons_succ, List.set_cons_zero]
        refine takeD 11 (some 57) (undef) (by kernel_rfl) (by kernel_rfl) (by kernel_rfl) (by kernel_rfl) (by kernel_rfl) (fun _ _ _ h => h) (yi_none (by kernel_rfl)) hSd ?_
        simp only [Act.put, List.setIfInBounds_toArray, List.set_cons_succ, List.set_cons_zero]
        refine takeD 12 (some 58) (undef) (by kernel_rfl) (by kernel_rfl) (by kernel_rfl) (by kernel_rfl) (by kernel_rfl) (fun _ _ _ h => h) (yi_none (by kernel_rfl)) hSd ?_
        simp only [Act.put, List.setIfInBounds_toArray, List.set_cons_succ, List.set_cons_zero]
        refine takeD 13 (some 59) (.bool false) (by kernel_rfl) (by kernel_rfl) (by kernel_rfl) (by kernel_rfl) (by kernel_rfl) (fun _ _ _ h => h) (yi_pure (v0 := .bool false) (by kernel_rfl) (fun _ => by kernel_rfl) rfl) hSd ?_
        simp only [Act.put, List.setIfInBounds_toArray, List.set_cons_succ, List.set_cons_zero]
        refine takeD 14 (some 60) (.bool false) (by kernel_rfl) (by kernel_rfl) (by kernel_rfl) (by kernel_rfl) (by kernel_rfl) (fun _ _ _ h => h) (yi_pure (v0 := .bool false) (by kernel_rfl) (fun _ => by kernel_rfl) rfl) hSd ?_
        simp only [Act.put, List.setIfInBounds_toArray, List.set_cons_succ, List.set_cons_zero]
        refine takeD 15 (some 61) (undef) (by kernel_rfl) (by kernel_rfl) (by kernel_rfl) (by kernel_rfl) (by kernel_rfl) (fun _ _ _ h => h) (yi_none (by kernel_rfl)) hSd ?_
        simp only [Act.put, List.setIfInBounds_toArray, List.set_cons_succ, List.set_cons_zero]
        refine takeD 16 (some 62) (undef) (by kernel_rfl) (by kernel_rfl) (by kernel_rfl) (by kernel_rfl) (by kernel_rfl) (fun _ _ _ h => h) (yi_none (by kernel_rfl)) hSd ?_
        simp only [Act.put, List.setIfInBounds_toArray, List.set_cons_succ, List.set_cons_zero]
        refine takeD 17 (some 63) (undef) (by kernel_rfl) (by kernel_rfl) (by kernel_rfl) (by kernel_rfl) (by kernel_rfl) (fun _ _ _ h => h) (yi_none (by kernel_rfl)) hSd ?_
        simp only [Act.put, List.setIfInBounds_toArray, List.set_cons_succ, List.set_cons_zero]
        refine takeD 18 (some 64) (.bool false) (by kernel_rfl) (by kernel_rfl) (by kernel_rfl) (by kernel_rfl) (by kernel_rfl) (fun _ _ _ h => h) (yi_pure (v0 := .bool false) (by kernel_rfl) (fun _ => by kernel_rfl) rfl) hSd ?_
        simp only [Act.put, List.setIfInBounds_toArray, List.set_cons_succ, List.set_cons_zero]
        refine takeOne 19 (by kernel_rfl) (by kernel_rfl) (by kernel_rfl) ?_
        obtain ⟨old, ho3, ho4⟩ := hSd.2.2.1
        refine wp_store_row 31 (.tmp 2) (.tmp 46) (by kernel_rfl) (w.heap.size + 1) (posC (stdP c)) (by kernel_rfl) (by kernel_rfl) _ old ho3 (posC_info _) (by rw [ho4, posC_size]) (posC_one _) ?_
        have hV := put_setRow wr.drew (w.heap.size + 1) (posC (stdP c))
        have hP2 : PosAt (wr.drew.setRow (w.heap.size + 1) (posC (stdP c))) (w.heap.size + 1) (stdP c) := ⟨setRow_heap _ _ _ _ _ _ ho3⟩
        have hSe : PosAt (wr.drew.setRow (w.heap.size + 1) (posC (stdP c))) w.heap.size (stdP c) ∧ RowAt (wr.drew.setRow (w.heap.size + 1) (posC (stdP c))) (w.heap.size + 1 + 1) 98 #[.int .i64 (n0 : Int), .int .i64 (n1 : Int)] ∧ (∃ old, (wr.drew.setRow (w.heap.size + 1) (posC (stdP c))).heap[w.heap.size + 1]? = some (.cells old 31 (0, 0)) ∧ old.size = 88) ∧ Below w.heap.size w (wr.drew.setRow (w.heap.size + 1) (posC (stdP c))) :=
          ⟨hV.pos hSd.1 (by omega), hV.row hSd.2.1 (by omega), ⟨_, hP2.heap, posC_size _⟩, hV.below hSd.2.2.2 (by omega)⟩
        refine ⟨hSe, ?_⟩
        refine takeD 20 (some 3) (.bool false) (by kernel_rfl) (by kernel_rfl) (by kernel_rfl) (by kernel_rfl) (by kernel_rfl) (fun _ _ _ h => h) (yi_pure (v0 := .bool false) (by kernel_rfl) (fun _ => by kernel_rfl) rfl) hSe ?_
        refine wpAnyH_done (by kernel_rfl) ?_ _
        go_wp2_with fail
        exact bodyPost_ret (v := .tuple #[.agg (posC (stdP c)), .bool false]) (results_cell_tmp Tryz.results22 _ _ (w.heap.size + 1) 31 _ _ _ rfl rfl ⟨hP2.heap⟩ Tryz.underlying31 rfl Tryz.size_Position) rfl ⟨by rw [ho2.out]; rfl, hSe.2.2.2⟩
      · refine takeD 0 (some 46) (.agg (posC (stdP c))) (by kernel_rfl) (by kernel_rfl) (by kernel_rfl) (by kernel_rfl) (by kernel_rfl) (fun _ _ _ h => h) (yieldsIf_load_mid (by kernel_rfl) 31 (.tmp 1) (by kernel_rfl) w.heap.size 0 (by kernel_rfl) (posL (stdP c)) _ (fun _ h => pos_range h.1.heap) hu rfl hinfo) hSd ?_
        simp only [Act.put, List.setIfInBounds_toArray, List.set_cons_succ, List.set_cons_zero]
        refine takeD 1 (some 47) (.pointer (some ⟨w.heap.size + 1 + 1, 0, none⟩)) (by kernel_rfl) (by kernel_rfl) (by kernel_rfl) (by kernel_rfl) (by kernel_rfl) (fun _ _ _ h => h) (yi_pure (v0 := .pointer (some ⟨w.heap.size + 1 + 1, 0, none⟩)) (by kernel_rfl) (fun _ => by kernel_rfl) rfl) hSd ?_
        simp only [Act.put, List.setIfInBounds_toArray, List.set_cons_succ, List.set_cons_zero]
        refine takeD 2 (some 48) (.int .i64 (n0 : Int)) (by kernel_rfl) (by kernel_rfl) (by kernel_rfl) (by kernel_rfl) (by kernel_rfl) (fun _ _ _ h => h) (yi_load (by kernel_rfl) 3 (.tmp 47) (by kernel_rfl) ⟨w.heap.size + 1 + 1, 0, none⟩ (by kernel_rfl) (fun w9 => load_int _ _ w9) (fun w9 h9 => h9.2.1.cell 0)) hSd ?_
        simp only [Act.put, List.setIfInBounds_toArray, List.set_cons_succ, List.set_cons_zero]
        refine takeD 3 (some 49) (.bool false) (by kernel_rfl) (by kernel_rfl) (by kernel_rfl) (by kernel_rfl) (by kernel_rfl) (fun _ _ _ h => h) (yi_pure (v0 := .bool (decide ((n0 : Int) < 2))) (by kernel_rfl) (fun _ => by kernel_rfl) (by rw [d0])) hSd ?_
        simp only [Act.put, List.setIfInBounds_toArray, List.set_cons_succ, List.set_cons_zero]
        refine takeD 4 (some 50) (.bool false) (by kernel_rfl) (by kernel_rfl) (by kernel_rfl) (by kernel_rfl) (by kernel_rfl) (fun _ _ _ h => h) (yi_pure (v0 := .bool false) (by kernel_rfl) (fun _ => by kernel_rfl) rfl) hSd ?_
        simp only [Act.put, List.setIfInBounds_toArray, List.set_cons_succ, List.set_cons_zero]
        refine takeD 5 (some 51) (undef) (by kernel_rfl) (by kernel_rfl) (by kernel_rfl) (by kernel_rfl) (by kernel_rfl) (fun _ _ _ h => h) (yi_none (by kernel_rfl)) hSd ?_
        simp only [Act.put, List.setIfInBounds_toArray, List.set_cons_succ, List.set_cons_zero]
        refine takeD 6 (some 52) (undef) (by kernel_rfl) (by kernel_rfl) (by kernel_rfl) (by kernel_rfl) (by kernel_rfl) (fun _ _ _ h => h) (yi_none (by kernel_rfl)) hSd ?_
        simp only [Act.put, List.setIfInBounds_toArray, List.set_cons_succ, List.set_cons_zero]
        refine takeD 7 (some 53) (undef) (by kernel_rfl) (by kernel_rfl) (by kernel_rfl) (by kernel_rfl) (by kernel_rfl) (fun _ _ _ h => h) (yi_none (by kernel_rfl)) hSd ?_
        simp only [Act.put, List.setIfInBounds_toArray, List.set_cons_succ, List.set_cons_zero]
        refine takeD 8 (some 54) (.bool false) (by kernel_rfl) (by kernel_rfl) (by kernel_rfl) (by kernel_rfl) (by kernel_rfl) (fun _ _ _ h => h) (yi_pure (v0 := .bool false) (by kernel_rfl) (fun _ => by kernel_rfl) rfl) hSd ?_
        simp only [Act.put, List.setIfInBounds_toArray, List.set_cons_succ, List.set_cons_zero]
        refine takeD 9 (some 55) (.bool false) (by kernel_rfl) (by kernel_rfl) (by kernel_rfl) (by kernel_rfl) (by kernel_rfl) (fun _ _ _ h => h) (yi_pure (v0 := .bool false) (by kernel_rfl) (fun _ => by kernel_rfl) rfl) hSd ?_
        simp only [Act.put, List.setIfInBounds_toArray, List.set_cons_succ, List.set_cons_zero]
        refine takeD 10 (some 56) (undef) (by kernel_rfl) (by kernel_rfl) (by kernel_rfl) (by kernel_rfl) (by kernel_rfl) (fun _ _ _ h => h) (yi_none (by kernel_rfl)) hSd ?_
        simp only [Act.put, List.setIfInBounds_toArray, List.set_cons_succ, List.set_cons_zero]
        refine takeD 11 (some 57) (undef) (by kernel_rfl) (by kernel_rfl) (by kernel_rfl) (by kernel_rfl) (by kernel_rfl) (fun _ _ _ h => h) (yi_none (by kernel_rfl)) hSd ?_
        simp only [Act.put, List.setIfInBounds_toArray, List.set_cons_succ, List.set_cons_zero]
        refine takeD 12 (some 58) (undef) (by kernel_rfl) (by kernel_rfl) (by kernel_rfl) (by kernel_rfl) (by kernel_rfl) (fun _ _ _ h => h) (yi_none (by kernel_rfl)) hSd ?_
        simp only [Act.put, List.setIfInBounds_toArray, List.set_cons_succ, List.set_cons_zero]
        refine takeD 13 (some 59) (.bool false) (by kernel_rfl) (by kernel_rfl) (by kernel_rfl) (by kernel_rfl) (by kernel_rfl) (fun _ _ _ h => h) (yi_pure (v0 := .bool false) (by kernel_rfl) (fun _ => by kernel_rfl) rfl) hSd ?_
        simp only [Act.put, List.setIfInBounds_toArray, List.set_cons_succ, List.set_cons_zero]
        refine takeD 14 (some 60) (.bool false) (by kernel_rfl) (by kernel_rfl) (by kernel_rfl) (by kernel_rfl) (by kernel_rfl) (fun _ _ _ h => h) (yi_pure (v0 := .bool false) (by kernel_rfl) (fun _ => by kernel_rfl) rfl) hSd ?_
        simp only [Act.put, List.setIfInBounds_toArray, List.set_cons_succ, List.set_cons_zero]
        refine takeD 15 (some 61) (undef) (by kernel_rfl) (by kernel_rfl) (by kernel_rfl) (by kernel_rfl) (by kernel_rfl) (fun _ _ _ h => h) (yi_none (by kernel_rfl)) hSd ?_
        simp only [Act.put, List.setIfInBounds_toArray, List.set_cons_succ, List.set_cons_zero]
        refine takeD 16 (some 62) (undef) (by kernel_rfl) (by kernel_rfl) (by kernel_rfl) (by kernel_rfl) (by kernel_rfl) (fun _ _ _ h => h) (yi_none (by kernel_rfl)) hSd ?_
        simp only [Act.put, List.setIfInBounds_toArray, List.set_cons_succ, List.set_cons_zero]
        refine takeD 17 (some 63) (undef) (by kernel_rfl) (by kernel_rfl) (by kernel_rfl) (by kernel_rfl) (by kernel_rfl) (fun _ _ _ h => h) (yi_none (by kernel_rfl)) hSd ?_
        simp only [Act.put, List.setIfInBounds_toArray, List.set_cons_succ, List.set_cons_zero]
        refine takeD 18 (some 64) (.bool false) (by kernel_rfl) (by kernel_rfl) (by kernel_rfl) (by kernel_rfl) (by kernel_rfl) (fun _ _ _ h => h) (yi_pure (v0 := .bool false) (by kernel_rfl) (fun _ => by kernel_rfl) rfl) hSd ?_
        simp only [Act.put, List.setIfInBounds_toArray, List.set_cons_succ, List.set_cons_zero]
        refine takeOne 19 (by kernel_rfl) (by kernel_rfl) (by kernel_rfl) ?_
        obtain ⟨old, ho3, ho4⟩ := hSd.2.2.1
        refine wp_store_row 31 (.tmp 2) (.tmp 46) (by kernel_rfl) (w.heap.size + 1) (posC (stdP c)) (by kernel_rfl) (by kernel_rfl) _ old ho3 (posC_info _) (by rw [ho4, posC_size]) (posC_one _) ?_
        have hV := put_setRow wr.drew (w.heap.size + 1) (posC (stdP c))
        have hP2 : PosAt (wr.drew.setRow (w.heap.size + 1) (posC (stdP c))) (w.heap.size + 1) (stdP c) := ⟨setRow_heap _ _ _ _ _ _ ho3⟩
        have hSe : PosAt (wr.drew.setRow (w.heap.size + 1) (posC (stdP c))) w.heap.size (stdP c) ∧ RowAt (wr.drew.setRow (w.heap.size + 1) (posC (stdP c))) (w.heap.size + 1 + 1) 98 #[.int .i64 (n0 : Int), .int .i64 (n1 : Int)] ∧ (∃ old, (wr.drew.setRow (w.heap.size + 1) (posC (stdP c))).heap[w.heap.size + 1]? = some (.cells old 31 (0, 0)) ∧ old.size = 88) ∧ Below w.heap.size w (wr.drew.setRow (w.heap.size + 1) (posC (stdP c))) :=
          ⟨hV.pos hSd.1 (by omega), hV.row hSd.2.1 (by omega), ⟨_, hP2.heap, posC_size _⟩, hV.below hSd.2.2.2 (by omega)⟩
        refine ⟨hSe, ?_⟩
        refine takeD 20 (some 3) (.bool false) (by kernel_rfl) (by kernel_rfl) (by kernel_rfl) (by kernel_rfl) (by kernel_rfl) (fun _ _ _ h => h) (yi_pure (v0 := .bool false) (by kernel_rfl) (fun _ => by kernel_rfl) rfl) hSe ?_
        refine wpAnyH_done (by kernel_rfl) ?_ _
        go_wp2_with fail
        exact bodyPost_ret (v := .tuple #[.agg (posC (stdP c)), .bool false]) (results_cell_tmp Tryz.results22 _ _ (w.heap.size + 1) 31 _ _ _ rfl rfl ⟨hP2.heap⟩ Tryz.underlying31 rfl Tryz.size_Position) rfl ⟨by rw [ho2.out]; rfl, hSe.2.2.2⟩
      · refine takeD 0 (some 46) (.agg (posC (stdP c))) (by kernel_rfl) (by kernel_rfl) (by kernel_rfl) (by kernel_rfl) (by kernel_rfl) (fun _ _ _ h => h) (yieldsIf_load_mid (by kernel_rfl) 31 (.tmp 1) (by kernel_rfl) w.heap.size 0 (by kernel_rfl) (posL (stdP c)) _ (fun _ h => pos_range h.1.heap) hu rfl hinfo) hSd ?_
        simp only [Act.put, List.setIfInBounds_toArray, List.set_cons_succ, List.set_cons_zero]
        refine takeD 1 (some 47) (.pointer (some ⟨w.heap.size + 1 + 1, 0, none⟩)) (by kernel_rfl) (by kernel_rfl) (by kernel_rfl) (by kernel_rfl) (by kernel_rfl) (fun _ _ _ h => h) (yi_pure (v0 := .pointer (some ⟨w.heap.size + 1 + 1, 0, none⟩)) (by kernel_rfl) (fun _ => by kernel_rfl) rfl) hSd ?_
        simp only [Act.put, List.setIfInBounds_toArray, List.set_cons_succ, List.set_cons_zero]
        refine takeD 2 (some 48) (.int .i64 (n0 : Int)) (by kernel_rfl) (by kernel_rfl) (by kernel_rfl) (by kernel_rfl) (by kernel_rfl) (fun _ _ _ h => h) (yi_load (by kernel_rfl) 3 (.tmp 47) (by kernel_rfl) ⟨w.heap.size + 1 + 1, 0, none⟩ (by kernel_rfl) (fun w9 => load_int _ _ w9) (fun w9 h9 => h9.2.1.cell 0)) hSd ?_
        simp only [Act.put, List.setIfInBounds_toArray, List.set_cons_succ, List.set_cons_zero]
        refine takeD 3 (some 49) (.bool false) (by kernel_rfl) (by kernel_rfl) (by kernel_rfl) (by kernel_rfl) (by kernel_rfl) (fun _ _ _ h => h) (yi_pure (v0 := .bool (decide ((n0 : Int) < 2))) (by kernel_rfl) (fun _ => by kernel_rfl) (by rw [d0])) hSd ?_
        simp only [Act.put, List.setIfInBounds_toArray, List.set_cons_succ, List.set_cons_zero]
        refine takeD 4 (some 50) (.bool false) (by kernel_rfl) (by kernel_rfl) (by kernel_rfl) (by kernel_rfl) (by kernel_rfl) (fun _ _ _ h => h) (yi_pure (v0 := .bool false) (by kernel_rfl) (fun _ => by kernel_rfl) rfl) hSd ?_
        simp only [Act.put, List.setIfInBounds_toArray, List.set_cons_succ, List.set_cons_zero]
        refine takeD 5 (some 51) (undef) (by kernel_rfl) (by kernel_rfl) (by kernel_rfl) (by kernel_rfl) (by kernel_rfl) (fun _ _ _ h => h) (yi_none (by kernel_rfl)) hSd ?_
        simp only [Act.put, List.setIfInBounds_toArray, List.set_cons_succ, List.set_cons_zero]
        refine takeD 6 (some 52) (undef) (by kernel_rfl) (by kernel_rfl) (by kernel_rfl) (by kernel_rfl) (by kernel_rfl) (fun _ _ _ h => h) (yi_none (by kernel_rfl)) hSd ?_
        simp only [Act.put, List.setIfInBounds_toArray, List.set_cons_succ, List.set_cons_zero]
        refine takeD 7 (some 53) (undef) (by kernel_rfl) (by kernel_rfl) (by kernel_rfl) (by kernel_rfl) (by kernel_rfl) (fun _ _ _ h => h) (yi_none (by kernel_rfl)) hSd ?_
        simp only [Act.put, List.setIfInBounds_toArray, List.set_cons_succ, List.set_cons_zero]
        refine takeD 8 (some 54) (.bool false) (by kernel_rfl) (by kernel_rfl) (by kernel_rfl) (by kernel_rfl) (by kernel_rfl) (fun _ _ _ h => h) (yi_pure (v0 := .bool false) (by kernel_rfl) (fun _ => by kernel_rfl) rfl) hSd ?_
        simp only [Act.put, List.setIfInBounds_toArray, List.set_cons_succ, List.set_cons_zero]
        refine takeD 9 (some 55) (.bool false) (by kernel_rfl) (by kernel_rfl) (by kernel_rfl) (by kernel_rfl) (by kernel_rfl) (fun _ _ _ h => h) (yi_pure (v0 := .bool false) (by kernel_rfl) (fun _ => by kernel_rfl) rfl) hSd ?_
        simp only [Act.put, List.setIfInBounds_toArray, List.set_cons_succ, List.set_cons_zero]
        refine takeD 10 (some 56) (undef) (by kernel_rfl) (by kernel_rfl) (by kernel_rfl) (by kernel_rfl) (by kernel_rfl) (fun _ _ _ h => h) (yi_none (by kernel_rfl)) hSd ?_
        simp only [Act.put, List.setIfInBounds_toArray, List.set_cons_succ, List.set_cons_zero]
        refine takeD 11 (some 57) (undef) (by kernel_rfl) (by kernel_rfl) (by kernel_rfl) (by kernel_rfl) (by kernel_rfl) (fun _ _ _ h => h) (yi_none (by kernel_rfl)) hSd ?_
        simp only [Act.put, List.setIfInBounds_toArray, List.set_cons_succ, List.set_cons_zero]
        refine takeD 12 (some 58) (undef) (by kernel_rfl) (by kernel_rfl) (by kernel_rfl) (by kernel_rfl) (by kernel_rfl) (fun _ _ _ h => h) (yi_none (by kernel_rfl)) hSd ?_
        simp only [Act.put, List.setIfInBounds_toArray, List.set_cons_succ, List.set_cons_zero]
        refine takeD 13 (some 59) (.bool false) (by kernel_rfl) (by kernel_rfl) (by kernel_rfl) (by kernel_rfl) (by kernel_rfl) (fun _ _ _ h => h) (yi_pure (v0 := .bool false) (by kernel_rfl) (fun _ => by kernel_rfl) rfl) hSd ?_
        simp only [Act.put, List.setIfInBounds_toArray, List.set_cons_succ, List.set_cons_zero]
        refine takeD 14 (some 60) (.bool false) (by kernel_rfl) (by kernel_rfl) (by kernel_rfl) (by kernel_rfl) (by kernel_rfl) (fun _ _ _ h => h) (yi_pure (v0 := .bool false) (by kernel_rfl) (fun _ => by kernel_rfl) rfl) hSd ?_
        simp only [Act.put, List.setIfInBounds_toArray, List.set_cons_succ, List.set_cons_zero]
        refine takeD 15 (some 61) (undef) (by kernel_rfl) (by kernel_rfl) (by kernel_rfl) (by kernel_rfl) (by kernel_rfl) (fun _ _ _ h => h) (yi_none (by kernel_rfl)) hSd ?_
        simp only [Act.put, List.setIfInBounds_toArray, List.set_cons_succ, List.set_cons_zero]
        refine takeD 16 (some 62) (undef) (by kernel_rfl) (by kernel_rfl) (by kernel_rfl) (by kernel_rfl) (by kernel_rfl) (fun _ _ _ h => h) (yi_none (by kernel_rfl)) hSd ?_
        simp only [Act.put, List.setIfInBounds_toArray, List.set_cons_succ, List.set_cons_zero]
        refine takeD 17 (some 63) (undef) (by kernel_rfl) (by kernel_rfl) (by kernel_rfl) (by kernel_rfl) (by kernel_rfl) (fun _ _ _ h => h) (yi_none (by kernel_rfl)) hSd ?_
        simp only [Act.put, List.setIfInBounds_toArray, List.set_cons_succ, List.set_cons_zero]
        refine takeD 18 (some 64) (.bool false) (by kernel_rfl) (by kernel_rfl) (by kernel_rfl) (by kernel_rfl) (by kernel_rfl) (fun _ _ _ h => h) (yi_pure (v0 := .bool false) (by kernel_rfl) (fun _ => by kernel_rfl) rfl) hSd ?_
        simp only [Act.put, List.setIfInBounds_toArray, List.set_cons_succ, List.set_cons_zero]
        refine takeOne 19 (by kernel_rfl) (by kernel_rfl) (by kernel_rfl) ?_
        obtain ⟨old, ho3, ho4⟩ := hSd.2.2.1
        refine wp_store_row 31 (.tmp 2) (.tmp 46) (by kernel_rfl) (w.heap.size + 1) (posC (stdP c)) (by kernel_rfl) (by kernel_rfl) _ old ho3 (posC_info _) (by rw [ho4, posC_size]) (posC_one _) ?_
        have hV := put_setRow wr.drew (w.heap.size + 1) (posC (stdP c))
        have hP2 : PosAt (wr.drew.setRow (w.heap.size + 1) (posC (stdP c))) (w.heap.size + 1) (stdP c) := ⟨setRow_heap _ _ _ _ _ _ ho3⟩
        have hSe : PosAt (wr.drew.setRow (w.heap.size + 1) (posC (stdP c))) w.heap.size (stdP c) ∧ RowAt (wr.drew.setRow (w.heap.size + 1) (posC (stdP c))) (w.heap.size + 1 + 1) 98 #[.int .i64 (n0 : Int), .int .i64 (n1 : Int)] ∧ (∃ old, (wr.drew.setRow (w.heap.size + 1) (posC (stdP c))).heap[w.heap.size + 1]? = some (.cells old 31 (0, 0)) ∧ old.size = 88) ∧ Below w.heap.size w (wr.drew.setRow (w.heap.size + 1) (posC (stdP c))) :=
          ⟨hV.pos hSd.1 (by omega), hV.row hSd.2.1 (by omega), ⟨_, hP2.heap, posC_size _⟩, hV.below hSd.2.2.2 (by omega)⟩
        refine ⟨hSe, ?_⟩
        refine takeD 20 (some 3) (.bool false) (by kernel_rfl) (by kernel_rfl) (by kernel_rfl) (by kernel_rfl) (by kernel_rfl) (fun _ _ _ h => h) (yi_pure (v0 := .bool false) (by kernel_rfl) (fun _ => by kernel_rfl) rfl) hSe ?_
        refine wpAnyH_done (by kernel_rfl) ?_ _
        go_wp2_with fail
        exact bodyPost_ret (v := .tuple #[.agg (posC (stdP c)), .bool false]) (results_cell_tmp Tryz.results22 _ _ (w.heap.size + 1) 31 _ _ _ rfl rfl ⟨hP2.heap⟩ Tryz.underlying31 rfl Tryz.size_Position) rfl ⟨by rw [ho2.out]; rfl, hSe.2.2.2⟩
      · refine takeD 0 (some 46) (.agg (posC (stdP c))) (by kernel_rfl) (by kernel_rfl) (by kernel_rfl) (by kernel_rfl) (by kernel_rfl) (fun _ _ _ h => h) (yieldsIf_load_mid (by kernel_rfl) 31 (.tmp 1) (by kernel_rfl) w.heap.size 0 (by kernel_rfl) (posL (stdP c)) _ (fun _ h => pos_range h.1.heap) hu rfl hinfo) hSd ?_
        simp only [Act.put, List.setIfInBounds_toArray, List.set_cons_succ, List.set_cons_zero]
        refine takeD 1 (some 47) (.pointer (some ⟨w.heap.size + 1 + 1, 0, none⟩)) (by kernel_rfl) (by kernel_rfl) (by kernel_rfl) (by kernel_rfl) (by kernel_rfl) (fun _ _ _ h => h) (yi_pure (v0 := .pointer (some ⟨w.heap.size + 1 + 1, 0, none⟩)) (by kernel_rfl) (fun _ => by kernel_rfl) rfl) hSd ?_
        simp only [Act.put, List.setIfInBounds_toArray, List.set_cons_succ, List.set_cons_zero]
        refine takeD 2 (some 48) (.int .i64 (n0 : Int)) (by kernel_rfl) (by kernel_rfl) (by kernel_rfl) (by kernel_rfl) (by kernel_rfl) (fun _ _ _ h => h) (yi_load (by kernel_rfl) 3 (.tmp 47) (by kernel_rfl) ⟨w.heap.size + 1 + 1, 0, none⟩ (by kernel_rfl) (fun w9 => load_int _ _ w9) (fun w9 h9 => h9.2.1.cell 0)) hSd ?_
        simp only [Act.put, List.setIfInBounds_toArray, List.set_cons_succ, List.set_cons_zero]
        refine takeD 3 (some 49) (.bool false) (by kernel_rfl) (by kernel_rfl) (by kernel_rfl) (by kernel_rfl) (by kernel_rfl) (fun _ _ _ h => h) (yi_pure (v0 := .bool (decide ((n0 : Int) < 2))) (by kernel_rfl) (fun _ => by kernel_rfl) (by rw [d0])) hSd ?_
        simp only [Act.put, List.setIfInBounds_toArray, List.set_cons_succ, List.set_cons_zero]
        refine takeD 4 (some 50) (.bool false) (by kernel_rfl) (by kernel_rfl) (by kernel_rfl) (by kernel_rfl) (by kernel_rfl) (fun _ _ _ h => h) (yi_pure (v0 := .bool false) (by kernel_rfl) (fun _ => by kernel_rfl) rfl) hSd ?_
        simp only [Act.put, List.setIfInBounds_toArray, List.set_cons_succ, List.set_cons_zero]
        refine takeD 5 (some 51) (undef) (by kernel_rfl) (by kernel_rfl) (by kernel_rfl) (by kernel_rfl) (by kernel_rfl) (fun _ _ _ h => h) (yi_none (by kernel_rfl)) hSd ?_
        simp only [Act.put, List.setIfInBounds_toArray, List.set_cons_succ, List.set_cons_zero]
        refine takeD 6 (some 52) (undef) (by kernel_rfl) (by kernel_rfl) (by kernel_rfl) (by kernel_rfl) (by kernel_rfl) (fun _ _ _ h => h) (yi_none (by kernel_rfl)) hSd ?_
        simp only [Act.put, List.setIfInBounds_toArray, List.set_cons_succ, List.set_cons_zero]
        refine takeD 7 (some 53) (undef) (by kernel_rfl) (by kernel_rfl) (by kernel_rfl) (by kernel_rfl) (by kernel_rfl) (fun _ _ _ h => h) (yi_none (by kernel_rfl)) hSd ?_
        simp only [Act.put, List.setIfInBounds_toArray, List.set_cons_succ, List.set_cons_zero]
        refine takeD 8 (some 54) (.bool false) (by kernel_rfl) (by kernel_rfl) (by kernel_rfl) (by kernel_rfl) (by kernel_rfl) (fun _ _ _ h => h) (yi_pure (v0 := .bool false) (by kernel_rfl) (fun _ => by kernel_rfl) rfl) hSd ?_
        simp only [Act.put, List.setIfInBounds_toArray, List.set_cons_succ, List.set_cons_zero]
        refine takeD 9 (some 55) (.bool false) (by kernel_rfl) (by kernel_rfl) (by kernel_rfl) (by kernel_rfl) (by kernel_rfl) (fun _ _ _ h => h) (yi_pure (v0 := .bool false) (by kernel_rfl) (fun _ => by kernel_rfl) rfl) hSd ?_
        simp only [Act.put, List.setIfInBounds_toArray, List.set_cons_succ, List.set_cons_zero]
        refine takeD 10 (some 56) (undef) (by kernel_rfl) (by kernel_rfl) (by kernel_rfl) (by kernel_rfl) (by kernel_rfl) (fun _ _ _ h => h) (yi_none (by kernel_rfl)) hSd ?_
        simp only [Act.put, List.setIfInBounds_toArray, List.set_cons_succ, List.set_cons_zero]
        refine takeD 11 (some 57) (undef) (by kernel_rfl) (by kernel_rfl) (by kernel_rfl) (by kernel_rfl) (by kernel_rfl) (fun _ _ _ h => h) (yi_none (by kernel_rfl)) hSd ?_
        simp only [Act.put, List.setIfInBounds_toArray, List.set_cons_succ, List.set_cons_zero]
        refine takeD 12 (some 58) (undef) (by kernel_rfl) (by kernel_rfl) (by kernel_rfl) (by kernel_rfl) (by kernel_rfl) (fun _ _ _ h => h) (yi_none (by kernel_rfl)) hSd ?_
        simp only [Act.put, List.setIfInBounds_toArray, List.set_cons_succ, List.set_cons_zero]
        refine takeD 13 (some 59) (.bool false) (by kernel_rfl) (by kernel_rfl) (by kernel_rfl) (by kernel_rfl) (by kernel_rfl) (fun _ _ _ h => h) (yi_pure (v0 := .bool false) (by kernel_rfl) (fun _ => by kernel_rfl) rfl) hSd ?_
        simp only [Act.put, List.setIfInBounds_toArray, List.set_cons_succ, List.set_cons_zero]
        refine takeD 14 (some 60) (.bool false) (by kernel_rfl) (by kernel_rfl) (by kernel_rfl) (by kernel_rfl) (by kernel_rfl) (fun _ _ _ h => h) (yi_pure (v0 := .bool false) (by kernel_rfl) (fun _ => by kernel_rfl) rfl) hSd ?_
        simp only [Act.put, List.setIfInBounds_toArray, List.set_cons_succ, List.set_cons_zero]
        refine takeD 15 (some 61) (undef) (by kernel_rfl) (by kernel_rfl) (by kernel_rfl) (by kernel_rfl) (by kernel_rfl) (fun _ _ _ h => h) (yi_none (by kernel_rfl)) hSd ?_
        simp only [Act.put, List.setIfInBounds_toArray, List.set_cons_succ, List.set_cons_zero]
        refine takeD 16 (some 62) (undef) (by kernel_rfl) (by kernel_rfl) (by kernel_rfl) (by kernel_rfl) (by kernel_rfl) (fun _ _ _ h => h) (yi_none (by kernel_rfl)) hSd ?_
        simp only [Act.put, List.setIfInBounds_toArray, List.set_cons_succ, List.set_cons_zero]
        refine takeD 17 (some 63) (undef) (by kernel_rfl) (by kernel_rfl) (by kernel_rfl) (by kernel_rfl) (by kernel_rfl) (fun _ _ _ h => h) (yi_none (by kernel_rfl)) hSd ?_
        simp only [Act.put, List.setIfInBounds_toArray, List.set_cons_succ, List.set_cons_zero]
        refine takeD 18 (some 64) (.bool false) (by kernel_rfl) (by kernel_rfl) (by kernel_rfl) (by kernel_rfl) (by kernel_rfl) (fun _ _ _ h => h) (yi_pure (v0 := .bool false) (by kernel_rfl) (fun _ => by kernel_rfl) rfl) hSd ?_
        simp only [Act.put, List.setIfInBounds_toArray, List.set_cons_succ, List.set_cons_zero]
        refine takeOne 19 (by kernel_rfl) (by kernel_rfl) (by kernel_rfl) ?_
        obtain ⟨old, ho3, ho4⟩ := hSd.2.2.1
        refine wp_store_row 31 (.tmp 2) (.tmp 46) (by kernel_rfl) (w.heap.size + 1) (posC (stdP c)) (by kernel_rfl) (by kernel_rfl) _ old ho3 (posC_info _) (by rw [ho4, posC_size]) (posC_one _) ?_
        have hV := put_setRow wr.drew (w.heap.size + 1) (posC (stdP c))
        have hP2 : PosAt (wr.drew.setRow (w.heap.size + 1) (posC (stdP c))) (w.heap.size + 1) (stdP c) := ⟨setRow_heap _ _ _ _ _ _ ho3⟩
        have hSe : PosAt (wr.drew.setRow (w.heap.size + 1) (posC (stdP c))) w.heap.size (stdP c) ∧ RowAt (wr.drew.setRow (w.heap.size + 1) (posC (stdP c))) (w.heap.size + 1 + 1) 98 #[.int .i64 (n0 : Int), .int .i64 (n1 : Int)] ∧ (∃ old, (wr.drew.setRow (w.heap.size + 1) (posC (stdP c))).heap[w.heap.size + 1]? = some (.cells old 31 (0, 0)) ∧ old.size = 88) ∧ Below w.heap.size w (wr.drew.setRow (w.heap.size + 1) (posC (stdP c))) :=
          ⟨hV.pos hSd.1 (by omega), hV.row hSd.2.1 (by omega), ⟨_, hP2.heap, posC_size _⟩, hV.below hSd.2.2.2 (by omega)⟩
        refine ⟨hSe, ?_⟩
        refine takeD 20 (some 3) (.bool false) (by kernel_rfl) (by kernel_rfl) (by kernel_rfl) (by kernel_rfl) (by kernel_rfl) (fun _ _ _ h => h) (yi_pure (v0 := .bool false) (by kernel_rfl) (fun _ => by kernel_rfl) rfl) hSe ?_
        refine wpAnyH_done (by kernel_rfl) ?_ _
        go_wp2_with fail
        exact bodyPost_ret (v := .tuple #[.agg (posC (stdP c)), .bool false]) (results_cell_tmp Tryz.results22 _ _ (w.heap.size + 1) 31 _ _ _ rfl rfl ⟨hP2.heap⟩ Tryz.underlying31 rfl Tryz.size_Position) rfl ⟨by rw [ho2.out]; rfl, hSe.2.2.2⟩
      · refine takeD 0 (some 46) (.agg (posC (stdP c))) (by kernel_rfl) (by kernel_rfl) (by kernel_rfl) (by kernel_rfl) (by kernel_rfl) (fun _ _ _ h => h) (yieldsIf_load_mid (by kernel_rfl) 31 (.tmp 1) (by kernel_rfl) w.heap.size 0 (by kernel_rfl) (posL (stdP c)) _ (fun _ h => pos_range h.1.heap) hu rfl hinfo) hSd ?_
        simp only [Act.put, List.setIfInBounds_toArray, List.set_cons_succ, List.set_cons_zero]
        refine takeD 1 (some 47) (.pointer (some ⟨w.heap.size + 1 + 1, 0, none⟩)) (by kernel_rfl) (by kernel_rfl) (by kernel_rfl) (by kernel_rfl) (by kernel_rfl) (fun _ _ _ h => h) (yi_pure (v0 := .pointer (some ⟨w.heap.size + 1 + 1, 0, none⟩)) (by kernel_rfl) (fun _ => by kernel_rfl) rfl) hSd ?_
        simp only [Act.put, List.setIfInBounds_toArray, List.set_cons_succ, List.set_cons_zero]
        refine takeD 2 (some 48) (.int .i64 (n0 : Int)) (by kernel_rfl) (by kernel_rfl) (by kernel_rfl) (by kernel_rfl) (by kernel_rfl) (fun _ _ _ h => h) (yi_load (by kernel_rfl) 3 (.tmp 47) (by kernel_rfl) ⟨w.heap.size + 1 + 1, 0, none⟩ (by kernel_rfl) (fun w9 => load_int _ _ w9) (fun w9 h9 => h9.2.1.cell 0)) hSd ?_
        simp only [Act.put, List.setIfInBounds_toArray, List.set_cons_succ, List.set_cons_zero]
        refine takeD 3 (some 49) (.bool true) (by kernel_rfl) (by kernel_rfl) (by kernel_rfl) (by kernel_rfl) (by kernel_rfl) (fun _ _ _ h => h) (yi_pure (v0 := .bool (decide ((n0 : Int) < 2))) (by kernel_rfl) (fun _ => by kernel_rfl) (by rw [d0])) hSd ?_
        simp only [Act.put, List.setIfInBounds_toArray, List.set_cons_succ, List.set_cons_zero]
        refine takeD 4 (some 50) (.bool true) (by kernel_rfl) (by kernel_rfl) (by kernel_rfl) (by kernel_rfl) (by kernel_rfl) (fun _ _ _ h => h) (yi_pure (v0 := .bool true) (by kernel_rfl) (fun _ => by kernel_rfl) rfl) hSd ?_
        simp only [Act.put, List.setIfInBounds_toArray, List.set_cons_succ, List.set_cons_zero]
        refine takeD 5 (some 51) (.pointer (some ⟨w.heap.size + 1 + 1, 1, none⟩)) (by kernel_rfl) (by kernel_rfl) (by kernel_rfl) (by kernel_rfl) (by kernel_rfl) (fun _ _ _ h => h) (yi_pure (v0 := .pointer (some ⟨w.heap.size + 1 + 1, 1, none⟩)) (by kernel_rfl) (fun _ => by kernel_rfl) rfl) hSd ?_
        simp only [Act.put, List.setIfInBounds_toArray, List.set_cons_succ, List.set_cons_zero]
        refine takeD 6 (some 52) (.int .i64 (n1 : Int)) (by kernel_rfl) (by kernel_rfl) (by kernel_rfl) (by kernel_rfl) (by kernel_rfl) (fun _ _ _ h => h) (yi_load (by kernel_rfl) 3 (.tmp 51) (by kernel_rfl) ⟨w.heap.size + 1 + 1, 1, none⟩ (by kernel_rfl) (fun w9 => load_int _ _ w9) (fun w9 h9 => h9.2.1.cell 1)) hSd ?_
        simp only [Act.put, List.setIfInBounds_toArray, List.set_cons_succ, List.set_cons_zero]
        refine takeD 7 (some 53) (.bool false) (by kernel_rfl) (by kernel_rfl) (by kernel_rfl) (by kernel_rfl) (by kernel_rfl) (fun _ _ _ h => h) (yi_pure (v0 := .bool (decide ((n1 : Int) < 2))) (by kernel_rfl) (fun _ => by kernel_rfl) (by rw [d1])) hSd ?_
        simp only [Act.put, List.setIfInBounds_toArray, List.set_cons_succ, List.set_cons_zero]
        refine takeD 8 (some 54) (.bool false) (by kernel_rfl) (by kernel_rfl) (by kernel_rfl) (by kernel_rfl) (by kernel_rfl) (fun _ _ _ h => h) (yi_pure (v0 := .bool false) (by kernel_rfl) (fun _ => by kernel_rfl) rfl) hSd ?_
        simp only [Act.put, List.setIfInBounds_toArray, List.set_cons_succ, List.set_cons_zero]
        refine takeD 9 (some 55) (.bool false) (by kernel_rfl) (by kernel_rfl) (by kernel_rfl) (by kernel_rfl) (by kernel_rfl) (fun _ _ _ h => h) (yi_pure (v0 := .bool false) (by kernel_rfl) (fun _ => by kernel_rfl) rfl) hSd ?_
        simp only [Act.put, List.setIfInBounds_toArray, List.set_cons_succ, List.set_cons_zero]
        refine takeD 10 (some 56) (undef) (by kernel_rfl) (by kernel_rfl) (by kernel_rfl) (by kernel_rfl) (by kernel_rfl) (fun _ _ _ h => h) (yi_none (by kernel_rfl)) hSd ?_
        simp only [Act.put, List.setIfInBounds_toArray, List.set_cons_succ, List.set_cons_zero]
        refine takeD 11 (some 57) (undef) (by kernel_rfl) (by kernel_rfl) (by kernel_rfl) (by kernel_rfl) (by kernel_rfl) (fun _ _ _ h => h) (yi_none (by kernel_rfl)) hSd ?_
        simp only [Act.put, List.setIfInBounds_toArray, List.set_cons_succ, List.set_cons_zero]
        refine takeD 12 (some 58) (undef) (by kernel_rfl) (by kernel_rfl) (by kernel_rfl) (by kernel_rfl) (by kernel_rfl) (fun _ _ _ h => h) (yi_none (by kernel_rfl)) hSd ?_
        simp only [Act.put, List.setIfInBounds_toArray, List.set_cons_succ, List.set_cons_zero]
        refine takeD 13 (some 59) (.bool false) (by kernel_rfl) (by kernel_rfl) (by kernel_rfl) (by kernel_rfl) (by kernel_rfl) (fun _ _ _ h => h) (yi_pure (v0 := .bool false) (by kernel_rfl) (fun _ => by kernel_rfl) rfl) hSd ?_
        simp only [Act.put, List.setIfInBounds_toArray, List.set_cons_succ, List.set_cons_zero]
        refine takeD 14 (some 60) (.bool false) (by kernel_rfl) (by kernel_rfl) (by kernel_rfl) (by kernel_rfl) (by kernel_rfl) (fun _ _ _ h => h) (yi_pure (v0 := .bool false) (by kernel_rfl) (fun _ => by kernel_rfl) rfl) hSd ?_
        simp only [Act.put, List.setIfInBounds_toArray, List.set_cons_succ, List.set_cons_zero]
        refine takeD 15 (some 61) (undef) (by kernel_rfl) (by kernel_rfl) (by kernel_rfl) (by kernel_rfl) (by kernel_rfl) (fun _ _ _ h => h) (yi_none (by kernel_rfl)) hSd ?_
        simp only [Act.put, List.setIfInBounds_toArray, List.set_cons_succ, List.set_cons_zero]
        refine takeD 16 (some 62) (undef) (by kernel_rfl) (by kernel_rfl) (by kernel_rfl) (by kernel_rfl) (by kernel_rfl) (fun _ _ _ h => h) (yi_none (by kernel_rfl)) hSd ?_
        simp only [Act.put, List.setIfInBounds_toArray, List.set_cons_succ, List.set_cons_zero]
        refine takeD 17 (some 63) (undef) (by kernel_rfl) (by kernel_rfl) (by kernel_rfl) (by kernel_rfl) (by kernel_rfl) (fun _ _ _ h => h) (yi_none (by kernel_rfl)) hSd ?_
        simp only [Act.put, List.setIfInBounds_toArray, List.set_cons_succ, List.set_cons_zero]
        refine takeD 18 (some 64) (.bool false) (by kernel_rfl) (by kernel_rfl) (by kernel_rfl) (by kernel_rfl) (by kernel_rfl) (fun _ _ _ h => h) (yi_pure (v0 := .bool false) (by kernel_rfl) (fun _ => by kernel_rfl) rfl) hSd ?_
        simp only [Act.put, List.setIfInBounds_toArray, List.set_cons_succ, List.set_cons_zero]
        refine takeOne 19 (by kernel_rfl) (by kernel_rfl) (by kernel_rfl) ?_
        obtain ⟨old, ho3, ho4⟩ := hSd.2.2.1
        refine wp_store_row 31 (.tmp 2) (.tmp 46) (by kernel_rfl) (w.heap.size + 1) (posC (stdP c)) (by kernel_rfl) (by kernel_rfl) _ old ho3 (posC_info _) (by rw [ho4, posC_size]) (posC_one _) ?_
        have hV := put_setRow wr.drew (w.heap.size + 1) (posC (stdP c))
        have hP2 : PosAt (wr.drew.setRow (w.heap.size + 1) (posC (stdP c))) (w.heap.size + 1) (stdP c) := ⟨setRow_heap _ _ _ _ _ _ ho3⟩
        have hSe : PosAt (wr.drew.setRow (w.heap.size + 1) (posC (stdP c))) w.heap.size (stdP c) ∧ RowAt (wr.drew.setRow (w.heap.size + 1) (posC (stdP c))) (w.heap.size + 1 + 1) 98 #[.int .i64 (n0 : Int), .int .i64 (n1 : Int)] ∧ (∃ old, (wr.drew.setRow (w.heap.size + 1) (posC (stdP c))).heap[w.heap.size + 1]? = some (.cells old 31 (0, 0)) ∧ old.size = 88) ∧ Below w.heap.size w (wr.drew.setRow (w.heap.size + 1) (posC (stdP c))) :=
          ⟨hV.pos hSd.1 (by omega), hV.row hSd.2.1 (by omega), ⟨_, hP2.heap, posC_size _⟩, hV.below hSd.2.2.2 (by omega)⟩
        refine ⟨hSe, ?_⟩
        refine takeD 20 (some 3) (.bool false) (by kernel_rfl) (by kernel_rfl) (by kernel_rfl) (by kernel_rfl) (by kernel_rfl) (fun _ _ _ h => h) (yi_pure (v0 := .bool false) (by kernel_rfl) (fun _ => by kernel_rfl) rfl) hSe ?_
        refine wpAnyH_done (by kernel_rfl) ?_ _
        go_wp2_with fail
        exact bodyPost_ret (v := .tuple #[.agg (posC (stdP c)), .bool false]) (results_cell_tmp Tryz.results22 _ _ (w.heap.size + 1) 31 _ _ _ rfl rfl ⟨hP2.heap⟩ Tryz.underlying31 rfl Tryz.size_Position) rfl ⟨by rw [ho2.out]; rfl, hSe.2.2.2⟩
      · refine takeD 0 (some 46) (.agg (posC (stdP c))) (by kernel_rfl) (by kernel_rfl) (by kernel_rfl) (by kernel_rfl) (by kernel_rfl) (fun _ _ _ h => h) (yieldsIf_load_mid (by kernel_rfl) 31 (.tmp 1) (by kernel_rfl) w.heap.size 0 (by kernel_rfl) (posL (stdP c)) _ (fun _ h => pos_range h.1.heap) hu rfl hinfo) hSd ?_
        simp only [Act.put, List.setIfInBounds_toArray, List.set_cons_succ, List.set_cons_zero]
        refine takeD 1 (some 47) (.pointer (some ⟨w.heap.size + 1 + 1, 0, none⟩)) (by kernel_rfl) (by kernel_rfl) (by kernel_rfl) (by kernel_rfl) (by kernel_rfl) (fun _ _ _ h => h) (yi_pure (v0 := .pointer (some ⟨w.heap.size + 1 + 1, 0, none⟩)) (by kernel_rfl) (fun _ => by kernel_rfl) rfl) hSd ?_
        simp only [Act.put, List.setIfInBounds_toArray, List.set_cons_succ, List.set_cons_zero]
        refine takeD 2 (some 48) (.int .i64 (n0 : Int)) (by kernel_rfl) (by kernel_rfl) (by kernel_rfl) (by kernel_rfl) (by kernel_rfl) (fun _ _ _ h => h) (yi_load (by kernel_rfl) 3 (.tmp 47) (by kernel_rfl) ⟨w.heap.size + 1 + 1, 0, none⟩ (by kernel_rfl) (fun w9 => load_int _ _ w9) (fun w9 h9 => h9.2.1.cell 0)) hSd ?_
        simp only [Act.put, List.setIfInBounds_toArray, List.set_cons_succ, List.set_cons_zero]
        refine takeD 3 (some 49) (.bool true) (by kernel_rfl) (by kernel_rfl) (by kernel_rfl) (by kernel_rfl) (by kernel_rfl) (fun _ _ _ h => h) (yi_pure (v0 := .bool (decide ((n0 : Int) < 2))) (by kernel_rfl) (fun _ => by kernel_rfl) (by rw [d0])) hSd ?_
        simp only [Act.put, List.setIfInBounds_toArray, List.set_cons_succ, List.set_cons_zero]
        refine takeD 4 (some 50) (.bool true) (by kernel_rfl) (by kernel_rfl) (by kernel_rfl) (by kernel_rfl) (by kernel_rfl) (fun _ _ _ h => h) (yi_pure (v0 := .bool true) (by kernel_rfl) (fun _ => by kernel_rfl) rfl) hSd ?_
        simp only [Act.put, List.setIfInBounds_toArray, List.set_cons_succ, List.set_cons_zero]
        refine takeD 5 (some 51) (.pointer (some ⟨w.heap.size + 1 + 1, 1, none⟩)) (by kernel_rfl) (by kernel_rfl) (by kernel_rfl) (by kernel_rfl) (by kernel_rfl) (fun _ _ _ h => h) (yi_pure (v0 := .pointer (some ⟨w.heap.size + 1 + 1, 1, none⟩)) (by kernel_rfl) (fun _ => by kernel_rfl) rfl) hSd ?_
        simp only [Act.put, List.setIfInBounds_toArray, List.set_cons_succ, List.set_cons_zero]
        refine takeD 6 (some 52) (.int .i64 (n1 : Int)) (by kernel_rfl) (by kernel_rfl) (by kernel_rfl) (by kernel_rfl) (by kernel_rfl) (fun _ _ _ h => h) (yi_load (by kernel_rfl) 3 (.tmp 51) (by kernel_rfl) ⟨w.heap.size + 1 + 1, 1, none⟩ (by kernel_rfl) (fun w9 => load_int _ _ w9) (fun w9 h9 => h9.2.1.cell 1)) hSd ?_
        simp only [Act.put, List.setIfInBounds_toArray, List.set_cons_succ, List.set_cons_zero]
        refine takeD 7 (some 53) (.bool false) (by kernel_rfl) (by kernel_rfl) (by kernel_rfl) (by kernel_rfl) (by kernel_rfl) (fun _ _ _ h => h) (yi_pure (v0 := .bool (decide ((n1 : Int) < 2))) (by kernel_rfl) (fun _ => by kernel_rfl) (by rw [d1])) hSd ?_
        simp only [Act.put, List.setIfInBounds_toArray, List.set_cons_succ, List.set_cons_zero]
        refine takeD 8 (some 54) (.bool false) (by kernel_rfl) (by kernel_rfl) (by kernel_rfl) (by kernel_rfl) (by kernel_rfl) (fun _ _ _ h => h) (yi_pure (v0 := .bool false) (by kernel_rfl) (fun _ => by kernel_rfl) rfl) hSd ?_
        simp only [Act.put, List.setIfInBounds_toArray, List.set_cons_succ, List.set_cons_zero]
        refine takeD 9 (some 55) (.bool false) (by kernel_rfl) (by kernel_rfl) (by kernel_rfl) (by kernel_rfl) (by kernel_rfl) (fun _ _ _ h => h) (yi_pure (v0 := .bool false) (by kernel_rfl) (fun _ => by kernel_rfl) rfl) hSd ?_
        simp only [Act.put, List.setIfInBounds_toArray, List.set_cons_succ, List.set_cons_zero]
        refine takeD 10 (some 56) (undef) (by kernel_rfl) (by kernel_rfl) (by kernel_rfl) (by kernel_rfl) (by kernel_rfl) (fun _ _ _ h => h) (yi_none (by kernel_rfl)) hSd ?_
        simp only [Act.put, List.setIfInBounds_toArray, List.set_cons_succ, List.set_cons_zero]
        refine takeD 11 (some 57) (undef) (by kernel_rfl) (by kernel_rfl) (by kernel_rfl) (by kernel_rfl) (by kernel_rfl) (fun _ _ _ h => h) (yi_none (by kernel_rfl)) hSd ?_
        simp only [Act.put, List.setIfInBounds_toArray, List.set_cons_succ, List.set_cons_zero]
        refine takeD 12 (some 58) (undef) (by kernel_rfl) (by kernel_rfl) (by kernel_rfl) (by kernel_rfl) (by kernel_rfl) (fun _ _ _ h => h) (yi_none (by kernel_rfl)) hSd ?_
        simp only [Act.put, List.setIfInBounds_toArray, List.set_cons_succ, List.set_cons_zero]
        refine takeD 13 (some 59) (.bool false) (by kernel_rfl) (by kernel_rfl) (by kernel_rfl) (by kernel_rfl) (by kernel_rfl) (fun _ _ _ h => h) (yi_pure (v0 := .bool false) (by kernel_rfl) (fun _ => by kernel_rfl) rfl) hSd ?_
        simp only [Act.put, List.setIfInBounds_toArray, List.set_cons_succ, List.set_cons_zero]
        refine takeD 14 (some 60) (.bool false) (by kernel_rfl) (by kernel_rfl) (by kernel_rfl) (by kernel_rfl) (by kernel_rfl) (fun _ _ _ h => h) (yi_pure (v0 := .bool false) (by kernel_rfl) (fun _ => by kernel_rfl) rfl) hSd ?_
        simp only [Act.put, List.setIfInBounds_toArray, List.set_cons_succ, List.set_cons_zero]
        refine takeD 15 (some 61) (undef) (by kernel_rfl) (by kernel_rfl) (by kernel_rfl) (by kernel_rfl) (by kernel_rfl) (fun _ _ _ h => h) (yi_none (by kernel_rfl)) hSd ?_
        simp only [Act.put, List.setIfInBounds_toArray, List.set_cons_succ, List.set_cons_zero]
        refine takeD 16 (some 62) (undef) (by kernel_rfl) (by kernel_rfl) (by kernel_rfl) (by kernel_rfl) (by kernel_rfl) (fun _ _ _ h => h) (yi_none (by kernel_rfl)) hSd ?_
        simp only [Act.put, List.setIfInBounds_toArray, List.set_cons_succ, List.set_cons_zero]
        refine takeD 17 (some 63) (undef) (by kernel_rfl) (by kernel_rfl) (by kernel_rfl) (by kernel_rfl) (by kernel_rfl) (fun _ _ _ h => h) (yi_none (by kernel_rfl)) hSd ?_
        simp only [Act.put, List.setIfInBounds_toArray, List.set_cons_succ, List.set_cons_zero]
        refine takeD 18 (some 64) (.bool false) (by kernel_rfl) (by kernel_rfl) (by kernel_rfl) (by kernel_rfl) (by kernel_rfl) (fun _ _ _ h => h) (yi_pure (v0 := .bool false) (by kernel_rfl) (fun _ => by kernel_rfl) rfl) hSd ?_
        simp only [Act.put, List.setIfInBounds_toArray, List.set_cons_succ, List.set_cons_zero]
        refine takeOne 19 (by kernel_rfl) (by kernel_rfl) (by kernel_rfl) ?_
        obtain ⟨old, ho3, ho4⟩ := hSd.2.2.1
        refine wp_store_row 31 (.tmp 2) (.tmp 46) (by kernel_rfl) (w.heap.size + 1) (posC (stdP c)) (by kernel_rfl) (by kernel_rfl) _ old ho3 (posC_info _) (by rw [ho4, posC_size]) (posC_one _) ?_
        have hV := put_setRow wr.drew (w.heap.size + 1) (posC (stdP c))
        have hP2 : PosAt (wr.drew.setRow (w.heap.size + 1) (posC (stdP c))) (w.heap.size + 1) (stdP c) := ⟨setRow_heap _ _ _ _ _ _ ho3⟩
        have hSe : PosAt (wr.drew.setRow (w.heap.size + 1) (posC (stdP c))) w.heap.size (stdP c) ∧ RowAt (wr.drew.setRow (w.heap.size + 1) (posC (stdP c))) (w.heap.size + 1 + 1) 98 #[.int .i64 (n0 : Int), .int .i64 (n1 : Int)] ∧ (∃ old, (wr.drew.setRow (w.heap.size + 1) (posC (stdP c))).heap[w.heap.size + 1]? = some (.cells old 31 (0, 0)) ∧ old.size = 88) ∧ Below w.heap.size w (wr.drew.setRow (w.heap.size + 1) (posC (stdP c))) :=
          ⟨hV.pos hSd.1 (by omega), hV.row hSd.2.1 (by omega), ⟨_, hP2.heap, posC_size _⟩, hV.below hSd.2.2.2 (by omega)⟩
        refine ⟨hSe, ?_⟩
        refine takeD 20 (some 3) (.bool false) (by kernel_rfl) (by kernel_rfl) (by kernel_rfl) (by kernel_rfl) (by kernel_rfl) (fun _ _ _ h => h) (yi_pure (v0 := .bool false) (by kernel_rfl) (fun _ => by kernel_rfl) rfl) hSe ?_
        refine wpAnyH_done (by kernel_rfl) ?_ _
        go_wp2_with fail
        exact bodyPost_ret (v := .tuple #[.agg (posC (stdP c)), .bool false]) (results_cell_tmp Tryz.results22 _ _ (w.heap.size + 1) 31 _ _ _ rfl rfl ⟨hP2.heap⟩ Tryz.underlying31 rfl Tryz.size_Position) rfl ⟨by rw [ho2.out]; rfl, hSe.2.2.2⟩
      · refine takeD 0 (some 46) (.agg (posC (stdP c))) (by kernel_rfl) (by kernel_rfl) (by kernel_rfl) (by kernel_rfl) (by kernel_rfl) (fun _ _ _ h => h) (yieldsIf_load_mid (by kernel_rfl) 31 (.tmp 1) (by kernel_rfl) w.heap.size 0 (by kernel_rfl) (posL (stdP c)) _ (fun _ h => pos_range h.1.heap) hu rfl hinfo) hSd ?_
        simp only [Act.put, List.setIfInBounds_toArray, List.set_cons_succ, List.set_cons_zero]
        refine takeD 1 (some 47) (.pointer (some ⟨w.heap.size + 1 + 1, 0, none⟩)) (by kernel_rfl) (by kernel_rfl) (by kernel_rfl) (by kernel_rfl) (by kernel_rfl) (fun _ _ _ h => h) (yi_pure (v0 := .pointer (some ⟨w.heap.size + 1 + 1, 0, none⟩)) (by kernel_rfl) (fun _ => by kernel_rfl) rfl) hSd ?_
        simp only [Act.put, List.setIfInBounds_toArray, List.set_cons_succ, List.set_cons_zero]
        refine takeD 2 (some 48) (.int .i64 (n0 : Int)) (by kernel_rfl) (by kernel_rfl) (by kernel_rfl) (by kernel_rfl) (by kernel_rfl) (fun _ _ _ h => h) (yi_load (by kernel_rfl) 3 (.tmp 47) (by kernel_rfl) ⟨w.heap.size + 1 + 1, 0, none⟩ (by kernel_rfl) (fun w9 => load_int _ _ w9) (fun w9 h9 => h9.2.1.cell 0)) hSd ?_
        simp only [Act.put, List.setIfInBounds_toArray, List.set_cons_succ, List.set_cons_zero]
        refine takeD 3 (some 49) (.bool true) (by kernel_rfl) (by kernel_rfl) (by kernel_rfl) (by kernel_rfl) (by kernel_rfl) (fun _ _ _ h => h) (yi_pure (v0 := .bool (decide ((n0 : Int) < 2))) (by kernel_rfl) (fun _ => by kernel_rfl) (by rw [d0])) hSd ?_
        simp only [Act.put, List.setIfInBounds_toArray, List.set_cons_succ, List.set_cons_zero]
        refine takeD 4 (some 50) (.bool true) (by kernel_rfl) (by kernel_rfl) (by kernel_rfl) (by kernel_rfl) (by kernel_rfl) (fun _ _ _ h => h) (yi_pure (v0 := .bool true) (by kernel_rfl) (fun _ => by kernel_rfl) rfl) hSd ?_
        simp only [Act.put, List.setIfInBounds_toArray, List.set_cons_succ, List.set_cons_zero]
        refine takeD 5 (some 51) (.pointer (some ⟨w.heap.size + 1 + 1, 1, none⟩)) (by kernel_rfl) (by kernel_rfl) (by kernel_rfl) (by kernel_rfl) (by kernel_rfl) (fun _ _ _ h => h) (yi_pure (v0 := .pointer (some ⟨w.heap.size + 1 + 1, 1, none⟩)) (by kernel_rfl) (fun _ => by kernel_rfl) rfl) hSd ?_
        simp only [Act.put, List.setIfInBounds_toArray, List.set_cons_succ, List.set_cons_zero]
        refine takeD 6 (some 52) (.int .i64 (n1 : Int)) (by kernel_rfl) (by kernel_rfl) (by kernel_rfl) (by kernel_rfl) (by kernel_rfl) (fun _ _ _ h => h) (yi_load (by kernel_rfl) 3 (.tmp 51) (by kernel_rfl) ⟨w.heap.size + 1 + 1, 1, none⟩ (by kernel_rfl) (fun w9 => load_int _ _ w9) (fun w9 h9 => h9.2.1.cell 1)) hSd ?_
        simp only [Act.put, List.setIfInBounds_toArray, List.set_cons_succ, List.set_cons_zero]
        refine takeD 7 (some 53) (.bool true) (by kernel_rfl) (by kernel_rfl) (by kernel_rfl) (by kernel_rfl) (by kernel_rfl) (fun _ _ _ h => h) (yi_pure (v0 := .bool (decide ((n1 : Int) < 2))) (by kernel_rfl) (fun _ => by kernel_rfl) (by rw [d1])) hSd ?_
        simp only [Act.put, List.setIfInBounds_toArray, List.set_cons_succ, List.set_cons_zero]
        refine takeD 8 (some 54) (.bool true) (by kernel_rfl) (by kernel_rfl) (by kernel_rfl) (by kernel_rfl) (by kernel_rfl) (fun _ _ _ h => h) (yi_pure (v0 := .bool true) (by kernel_rfl) (fun _ => by kernel_rfl) rfl) hSd ?_
        simp only [Act.put, List.setIfInBounds_toArray, List.set_cons_succ, List.set_cons_zero]
        refine takeD 9 (some 55) (.bool true) (by kernel_rfl) (by kernel_rfl) (by kernel_rfl) (by kernel_rfl) (by kernel_rfl) (fun _ _ _ h => h) (yi_pure (v0 := .bool true) (by kernel_rfl) (fun _ => by kernel_rfl) rfl) hSd ?_
        simp only [Act.put, List.setIfInBounds_toArray, List.set_cons_succ, List.set_cons_zero]
        refine takeD 10 (some 56) (.pointer (some ⟨w.heap.size, 83, none⟩)) (by kernel_rfl) (by kernel_rfl) (by kernel_rfl) (by kernel_rfl) (by kernel_rfl) (fun _ _ _ h => h) (yi_pure (v0 := .pointer (some ⟨w.heap.size, 83, none⟩)) (by kernel_rfl) (fun _ => by kernel_rfl) rfl) hSd ?_
        simp only [Act.put, List.setIfInBounds_toArray, List.set_cons_succ, List.set_cons_zero]
        refine takeD 11 (some 57) (.int .i8 (c 83)) (by kernel_rfl) (by kernel_rfl) (by kernel_rfl) (by kernel_rfl) (by kernel_rfl) (fun _ _ _ h => h) (yi_load (by kernel_rfl) 26 (.tmp 56) (by kernel_rfl) ⟨w.heap.size, 83, none⟩ (by kernel_rfl) (fun w9 => load_i8 _ _ w9) (fun w9 h9 => h9.1.cell (i := 83) (by decide))) hSd ?_
        simp only [Act.put, List.setIfInBounds_toArray, List.set_cons_succ, List.set_cons_zero]
        refine takeD 12 (some 58) (.bool false) (by kernel_rfl) (by kernel_rfl) (by kernel_rfl) (by kernel_rfl) (by kernel_rfl) (fun _ _ _ h => h) (yi_pure (v0 := .bool (decide (-1 ≤ c 83))) (by kernel_rfl) (fun _ => by kernel_rfl) (by rw [d2])) hSd ?_
        simp only [Act.put, List.setIfInBounds_toArray, List.set_cons_succ, List.set_cons_zero]
        refine takeD 13 (some 59) (.bool false) (by kernel_rfl) (by kernel_rfl) (by kernel_rfl) (by kernel_rfl) (by kernel_rfl) (fun _ _ _ h => h) (yi_pure (v0 := .bool false) (by kernel_rfl) (fun _ => by kernel_rfl) rfl) hSd ?_
        simp only [Act.put, List.setIfInBounds_toArray, List.set_cons_succ, List.set_cons_zero]
        refine takeD 14 (some 60) (.bool false) (by kernel_rfl) (by kernel_rfl) (by kernel_rfl) (by kernel_rfl) (by kernel_rfl) (fun _ _ _ h => h) (yi_pure (v0 := .bool false) (by kernel_rfl) (fun _ => by kernel_rfl) rfl) hSd ?_
        simp only [Act.put, List.setIfInBounds_toArray, List.set_cons_succ, List.set_cons_zero]
        refine takeD 15 (some 61) (undef) (by kernel_rfl) (by kernel_rfl) (by kernel_rfl) (by kernel_rfl) (by kernel_rfl) (fun _ _ _ h => h) (yi_none (by kernel_rfl)) hSd ?_
        simp only [Act.put, List.setIfInBounds_toArray, List.set_cons_succ, List.set_cons_zero]
        refine takeD 16 (some 62) (undef) (by kernel_rfl) (by kernel_rfl) (by kernel_rfl) (by kernel_rfl) (by kernel_rfl) (fun _ _ _ h => h) (yi_none (by kernel_rfl)) hSd ?_
        simp only [Act.put, List.setIfInBounds_toArray, List.set_cons_succ, List.set_cons_zero]
        refine takeD 17 (some 63) (undef) (by kernel_rfl) (by kernel_rfl) (by kernel_rfl) (by kernel_rfl) (by kernel_rfl) (fun _ _ _ h => h) (yi_none (by kernel_rfl)) hSd ?_
        simp only [Act.put, List.setIfInBounds_toArray, List.set_cons_succ, List.set_cons_zero]
        refine takeD 18 (some 64) (.bool false) (by kernel_rfl) (by kernel_rfl) (by kernel_rfl) (by kernel_rfl) (by kernel_rfl) (fun _ _ _ h => h) (yi_pure (v0 := .bool false) (by kernel_rfl) (fun _ => by kernel_rfl) rfl) hSd ?_
        simp only [Act.put, List.setIfInBounds_toArray, List.set_cons_succ, List.set_cons_zero]
        refine takeOne 19 (by kernel_rfl) (by kernel_rfl) (by kernel_rfl) ?_
        obtain ⟨old, ho3, ho4⟩ := hSd.2.2.1
        refine wp_store_row 31 (.tmp 2) (.tmp 46) (by kernel_rfl) (w.heap.size + 1) (posC (stdP c)) (by kernel_rfl) (by kernel_rfl) _ old ho3 (posC_info _) (by rw [ho4, posC_size]) (posC_one _) ?_
        have hV := put_setRow wr.drew (w.heap.size + 1) (posC (stdP c))
        have hP2 : PosAt (wr.drew.setRow (w.heap.size + 1) (posC (stdP c))) (w.heap.size + 1) (stdP c) := ⟨setRow_heap _ _ _ _ _ _ ho3⟩
        have hSe : PosAt (wr.drew.setRow (w.heap.size + 1) (posC (stdP c))) w.heap.size (stdP c) ∧ RowAt (wr.drew.setRow (w.heap.size + 1) (posC (stdP c))) (w.heap.size + 1 + 1) 98 #[.int .i64 (n0 : Int), .int .i64 (n1 : Int)] ∧ (∃ old, (wr.drew.setRow (w.heap.size + 1) (posC (stdP c))).heap[w.heap.size + 1]? = some (.cells old 31 (0, 0)) ∧ old.size = 88) ∧ Below w.heap.size w (wr.drew.setRow (w.heap.size + 1) (posC (stdP c))) :=
          ⟨hV.pos hSd.1 (by omega), hV.row hSd.2.1 (by omega), ⟨_, hP2.heap, posC_size _⟩, hV.below hSd.2.2.2 (by omega)⟩
        refine ⟨hSe, ?_⟩
        refine takeD 20 (some 3) (.bool false) (by kernel_rfl) (by kernel_rfl) (by kernel_rfl) (by kernel_rfl) (by kernel_rfl) (fun _ _ _ h => h) (yi_pure (v0 := .bool false) (by kernel_rfl) (fun _ => by kernel_rfl) rfl) hSe ?_
        refine wpAnyH_done (by kernel_rfl) ?_ _
        go_wp2_with fail
        exact bodyPost_ret (v := .tuple #[.agg (posC (stdP c)), .bool false]) (results_cell_tmp Tryz.results22 _ _ (w.heap.size + 1) 31 _ _ _ rfl rfl ⟨hP2.heap⟩ Tryz.underlying31 rfl Tryz.size_Position) rfl ⟨by rw [ho2.out]; rfl, hSe.2.2.2⟩
      · refine takeD 0 (some 46) (.agg (posC (stdP c))) (by kernel_rfl) (by kernel_rfl) (by kernel_rfl) (by kernel_rfl) (by kernel_rfl) (fun _ _ _ h => h) (yieldsIf_load_mid (by kernel_rfl) 31 (.tmp 1) (by kernel_rfl) w.heap.size 0 (by kernel_rfl) (posL (stdP c)) _ (fun _ h => pos_range h.1.heap) hu rfl hinfo) hSd ?_
        simp only [Act.put, List.setIfInBounds_toArray, List.set_cons_succ, List.set_cons_zero]
        refine takeD 1 (some 47) (.pointer (some ⟨w.heap.size + 1 + 1, 0, none⟩)) (by kernel_rfl) (by kernel_rfl) (by kernel_rfl) (by kernel_rfl) (by kernel_rfl) (fun _ _ _ h => h) (yi_pure (v0 := .pointer (some ⟨w.heap.size + 1 + 1, 0, none⟩)) (by kernel_rfl) (fun _ => by kernel_rfl) rfl) hSd ?_
        simp only [Act.put, List.setIfInBounds_toArray, List.set_cons_succ, List.set_cons_zero]
        refine takeD 2 (some 48) (.int .i64 (n0 : Int)) (by kernel_rfl) (by kernel_rfl) (by kernel_rfl) (by kernel_rfl) (by kernel_rfl) (fun _ _ _ h => h) (yi_load (by kernel_rfl) 3 (.tmp 47) (by kernel_rfl) ⟨w.heap.size + 1 + 1, 0, none⟩ (by kernel_rfl) (fun w9 => load_int _ _ w9) (fun w9 h9 => h9.2.1.cell 0)) hSd ?_
        simp only [Act.put, List.setIfInBounds_toArray, List.set_cons_succ, List.set_cons_zero]
        refine takeD 3 (some 49) (.bool true) (by kernel_rfl) (by kernel_rfl) (by kernel_rfl) (by kernel_rfl) (by kernel_rfl) (fun _ _ _ h => h) (yi_pure (v0 := .bool (decide ((n0 : Int) < 2))) (by kernel_rfl) (fun _ => by kernel_rfl) (by rw [d0])) hSd ?_
        simp only [Act.put, List.setIfInBounds_toArray, List.set_cons_succ, List.set_cons_zero]
        refine takeD 4 (some 50) (.bool true) (by kernel_rfl) (by kernel_rfl) (by kernel_rfl) (by kernel_rfl) (by kernel_rfl) (fun _ _ _ h => h) (yi_pure (v0 := .bool true) (by kernel_rfl) (fun _ => by kernel_rfl) rfl) hSd ?_
        simp only [Act.put, List.setIfInBounds_toArray, List.set_cons_succ, List.set_cons_zero]
        refine takeD 5 (some 51) (.pointer (some ⟨w.heap.size + 1 + 1, 1, none⟩)) (by kernel_rfl) (by kernel_rfl) (by kernel_rfl) (by kernel_rfl) (by kernel_rfl) (fun _ _ _ h => h) (yi_pure (v0 := .pointer (some ⟨w.heap.size + 1 + 1, 1, none⟩)) (by kernel_rfl) (fun _ => by kernel_rfl) rfl) hSd ?_
        simp only [Act.put, List.setIfInBounds_toArray, List.set_cons_succ, List.set_cons_zero]
        refine takeD 6 (some 52) (.int .i64 (n1 : Int)) (by kernel_rfl) (by kernel_rfl) (by kernel_rfl) (by kernel_rfl) (by kernel_rfl) (fun _ _ _ h => h) (yi_load (by kernel_rfl) 3 (.tmp 51) (by kernel_rfl) ⟨w.heap.size + 1 + 1, 1, none⟩ (by kernel_rfl) (fun w9 => load_int _ _ w9) (fun w9 h9 => h9.2.1.cell 1)) hSd ?_
        simp only [Act.put, List.setIfInBounds_toArray, List.set_cons_succ, List.set_cons_zero]
        refine takeD 7 (some 53) (.bool true) (by kernel_rfl) (by kernel_rfl) (by kernel_rfl) (by kernel_rfl) (by kernel_rfl) (fun _ _ _ h => h) (yi_pure (v0 := .bool (decide ((n1 : Int) < 2))) (by kernel_rfl) (fun _ => by kernel_rfl) (by rw [d1])) hSd ?_
        simp only [Act.put, List.setIfInBounds_toArray, List.set_cons_succ, List.set_cons_zero]
        refine takeD 8 (some 54) (.bool true) (by kernel_rfl) (by kernel_rfl) (by kernel_rfl) (by kernel_rfl) (by kernel_rfl) (fun _ _ _ h => h) (yi_pure (v0 := .bool true) (by kernel_rfl) (fun _ => by kernel_rfl) rfl) hSd ?_
        simp only [Act.put, List.setIfInBounds_toArray, List.set_cons_succ, List.set_cons_zero]
        refine takeD 9 (some 55) (.bool true) (by kernel_rfl) (by kernel_rfl) (by kernel_rfl) (by kernel_rfl) (by kernel_rfl) (fun _ _ _ h => h) (yi_pure (v0 := .bool true) (by kernel_rfl) (fun _ => by kernel_rfl) rfl) hSd ?_
        simp only [Act.put, List.setIfInBounds_toArray, List.set_cons_succ, List.set_cons_zero]
        refine takeD 10 (some 56) (.pointer (some ⟨w.heap.size, 83, none⟩)) (by kernel_rfl) (by kernel_rfl) (by kernel_rfl) (by kernel_rfl) (by kernel_rfl) (fun _ _ _ h => h) (yi_pure (v0 := .pointer (some ⟨w.heap.size, 83, none⟩)) (by kernel_rfl) (fun _ => by kernel_rfl) rfl) hSd ?_
        simp only [Act.put, List.setIfInBounds_toArray, List.set_cons_succ, List.set_cons_zero]
        refine takeD 11 (some 57) (.int .i8 (c 83)) (by kernel_rfl) (by kernel_rfl) (by kernel_rfl) (by kernel_rfl) (by kernel_rfl) (fun _ _ _ h => h) (yi_load (by kernel_rfl) 26 (.tmp 56) (by kernel_rfl) ⟨w.heap.size, 83, none⟩ (by kernel_rfl) (fun w9 => load_i8 _ _ w9) (fun w9 h9 => h9.1.cell (i := 83) (by decide))) hSd ?_
        simp only [Act.put, List.setIfInBounds_toArray, List.set_cons_succ, List.set_cons_zero]
        refine takeD 12 (some 58) (.bool true) (by kernel_rfl) (by kernel_rfl) (by kernel_rfl) (by kernel_rfl) (by kernel_rfl) (fun _ _ _ h => h) (yi_pure (v0 := .bool (decide (-1 ≤ c 83))) (by kernel_rfl) (fun _ => by kernel_rfl) (by rw [d2])) hSd ?_
        simp only [Act.put, List.setIfInBounds_toArray, List.set_cons_succ, List.set_cons_zero]
        refine takeD 13 (some 59) (.bool true) (by kernel_rfl) (by kernel_rfl) (by kernel_rfl) (by kernel_rfl) (by kernel_rfl) (fun _ _ _ h => h) (yi_pure (v0 := .bool true) (by kernel_rfl) (fun _ => by kernel_rfl) rfl) hSd ?_
        simp only [Act.put, List.setIfInBounds_toArray, List.set_cons_succ, List.set_cons_zero]
        refine takeD 14 (some 60) (.bool true) (by kernel_rfl) (by kernel_rfl) (by kernel_rfl) (by kernel_rfl) (by kernel_rfl) (fun _ _ _ h => h) (yi_pure (v0 := .bool true) (by kernel_rfl) (fun _ => by kernel_rfl) rfl) hSd ?_
        simp only [Act.put, List.setIfInBounds_toArray, List.set_cons_succ, List.set_cons_zero]
        refine takeD 15 (some 61) (.pointer (some ⟨w.heap.size, 83, none⟩)) (by kernel_rfl) (by kernel_rfl) (by kernel_rfl) (by kernel_rfl) (by kernel_rfl) (fun _ _ _ h => h) (yi_pure (v0 := .pointer (some ⟨w.heap.size, 83, none⟩)) (by kernel_rfl) (fun _ => by kernel_rfl) rfl) hSd ?_
        simp only [Act.put, List.setIfInBounds_toArray, List.set_cons_succ, List.set_cons_zero]
        refine takeD 16 (some 62) (.int .i8 (c 83)) (by kernel_rfl) (by kernel_rfl) (by kernel_rfl) (by kernel_rfl) (by kernel_rfl) (fun _ _ _ h => h) (yi_load (by kernel_rfl) 26 (.tmp 61) (by kernel_rfl) ⟨w.heap.size, 83, none⟩ (by kernel_rfl) (fun w9 => load_i8 _ _ w9) (fun w9 h9 => h9.1.cell (i := 83) (by decide))) hSd ?_
        simp only [Act.put, List.setIfInBounds_toArray, List.set_cons_succ, List.set_cons_zero]
        refine takeD 17 (some 63) (.bool (decide (c 83 < 64))) (by kernel_rfl) (by kernel_rfl) (by kernel_rfl) (by kernel_rfl) (by kernel_rfl) (fun _ _ _ h => h) (yi_pure (v0 := .bool (decide (c 83 < 64))) (by kernel_rfl) (fun _ => by kernel_rfl) rfl) hSd ?_
        simp only [Act.put, List.setIfInBounds_toArray, List.set_cons_succ, List.set_cons_zero]
        refine takeD 18 (some 64) (.bool (decide (c 83 < 64))) (by kernel_rfl) (by kernel_rfl) (by kernel_rfl) (by kernel_rfl) (by kernel_rfl) (fun _ _ _ h => h) (yi_pure (v0 := .bool (decide (c 83 < 64))) (by kernel_rfl) (fun _ => by kernel_rfl) rfl) hSd ?_
        simp only [Act.put, List.setIfInBounds_toArray, List.set_cons_succ, List.set_cons_zero]
        refine takeOne 19 (by kernel_rfl) (by kernel_rfl) (by kernel_rfl) ?_
        obtain ⟨old, ho3, ho4⟩ := hSd.2.2.1
        refine wp_store_row 31 (.tmp 2) (.tmp 46) (by kernel_rfl) (w.heap.size + 1) (posC (stdP c)) (by kernel_rfl) (by kernel_rfl) _ old ho3 (posC_info _) (by rw [ho4, posC_size]) (posC_one _) ?_
        have hV := put_setRow wr.drew (w.heap.size + 1) (posC (stdP c))
        have hP2 : PosAt (wr.drew.setRow (w.heap.size + 1) (posC (stdP c))) (w.heap.size + 1) (stdP c) := ⟨setRow_heap _ _ _ _ _ _ ho3⟩
        have hSe : PosAt (wr.drew.setRow (w.heap.size + 1) (posC (stdP c))) w.heap.size (stdP c) ∧ RowAt (wr.drew.setRow (w.heap.size + 1) (posC (stdP c))) (w.heap.size + 1 + 1) 98 #[.int .i64 (n0 : Int), .int .i64 (n1 : Int)] ∧ (∃ old, (wr.drew.setRow (w.heap.size + 1) (posC (stdP c))).heap[w.heap.size + 1]? = some (.cells old 31 (0, 0)) ∧ old.size = 88) ∧ Below w.heap.size w (wr.drew.setRow (w.heap.size + 1) (posC (stdP c))) :=
          ⟨hV.pos hSd.1 (by omega), hV.row hSd.2.1 (by omega), ⟨_, hP2.heap, posC_size _⟩, hV.below hSd.2.2.2 (by omega)⟩
        refine ⟨hSe, ?_⟩
        refine takeD 20 (some 3) (.bool (decide (c 83 < 64))) (by kernel_rfl) (by kernel_rfl) (by kernel_rfl) (by kernel_rfl) (by kernel_rfl) (fun _ _ _ h => h) (yi_pure (v0 := .bool (decide (c 83 < 64))) (by kernel_rfl) (fun _ => by kernel_rfl) rfl) hSe ?_
        refine wpAnyH_done (by kernel_rfl) ?_ _
        go_wp2_with fail
        exact bodyPost_ret (v := .tuple #[.agg (posC (stdP c)), .bool (decide (c 83 < 64))]) (results_cell_tmp Tryz.results22 _ _ (w.heap.size + 1) 31 _ _ _ rfl rfl ⟨hP2.heap⟩ Tryz.underlying31 rfl Tryz.size_Position) rfl ⟨by rw [ho2.out]; rfl, hSe.2.2.2⟩
end Go.Proofs.YtgkndhpolcnjbaaGreatDoor
