/- Several texts in one: AfDr, AfAl. -/
import Derived.Great.BuildSlice
import Derived.Test.YtgkndhpolcnjbaaGreatDoorQh
import Derived.Test.YtgkndhpolcnjbaaGreatDoorQp
import Derived.Test.YtgkndhpolcnjbaaGreatDoorQo
import Derived.Test.YtgkndhpolcnjbaaGreatDoorQl
import Derived.Test.YtgkndhpolcnjbaaGreatDoorQa3
import Derived.Test.YtgkndhpolcnjbaaGreatDoorQa4
import Derived.Test.YtgkndhpolcnjbaaGreatDoorQd
namespace Go.Proofs.YtgkndhpolcnjbaaGreatDoor
open Go.RowKit Go.Sort
attribute [local go_sem] Oper.semAt_some
theorem A.xor_all (x : BitVec 64) : bits .xor .u64 18446744073709551615 (U x) = U (bNot x) := by
  have h := bv_xor (BitVec.allOnes 64) x
  rw [show U (BitVec.allOnes 64) = 18446744073709551615 by decide] at h
  rw [h]
  unfold bXor bNot
  rw [BitVec.allOnes_xor]
theorem A.xor_if (x : BitVec 64) : bits .xor .u64 (if IntKind.u64.signed = true then -1 else IntKind.u64.max) (U x) = U (bNot x) := by
  rw [show (if IntKind.u64.signed = true then (-1 : Int) else IntKind.u64.max) = 18446744073709551615 by decide]
  exact A.xor_all x
theorem A.and_mid (x : BitVec 64) : bits .and .u64 (U x) 72057594037927680 = U (bAnd x 0x00ffffffffffff00#64) := bv_and x 0x00ffffffffffff00#64
theorem A.and_all (x : BitVec 64) : bAnd x (bNot 0#64) = x := by
  unfold bAnd bNot
  exact BitVec.eq_of_getLsbD_eq (fun i hi => by rw [BitVec.getLsbD_and, BitVec.getLsbD_not]; simp [hi])
set_option maxRecDepth 100000 in
set_option maxHeartbeats 1000000 in
theorem drlist_turn (c : Nat → Int) (w : World) (h1 : ¬ c 78 ≤ 1) : Calls Tryz.prog 51 #[.agg (posC c)] w (Z.End [] w) := by
  have hp := PosAt.new w c
  have hb0 : Below w.heap.size w (w.alloc (.cells (posC c) 31)) := (Below.refl _ _).alloc (Nat.le_refl _) _
  obtain ⟨W, hW⟩ : ∃ W, w.alloc (.cells (posC c) 31) = W := ⟨_, rfl⟩
  rw [hW] at hp hb0
  have h0 := hp.cell (i := 0) (by decide)
  have h78 := hp.cell (i := 78) (by decide)
  rw [show pk 0 = .u8 from rfl] at h0
  rw [show pk 78 = .u8 from rfl] at h78
  have hpl := hp.lt
  have d1 : decide (1 < c 78) = true := by simp; omega
  have HB := Lib.hid hb0
  clear h1 hb0 hp
  go_enter Tryz.func51, Tryz.ntmps51
  go_wp2
  go_step3
  go_wp2
  rw [Exit.noGoto_ret]
  go_ret
  exact ⟨_, rfl, World.ownsRow_nil _ _ _ _, HB.out⟩
set_option maxRecDepth 100000 in
set_option maxHeartbeats 1000000 in
theorem drlist_var (c : Nat → Int) (v : Nat) (w : World) (h1 : c 78 ≤ 1) (hv : c 0 = (v : Int)) (h2 : v ≠ 2) : Calls Tryz.prog 51 #[.agg (posC c)] w (Z.End [] w) := by
  have hp := PosAt.new w c
  have hb0 : Below w.heap.size w (w.alloc (.cells (posC c) 31)) := (Below.refl _ _).alloc (Nat.le_refl _) _
  obtain ⟨W, hW⟩ : ∃ W, w.alloc (.cells (posC c) 31) = W := ⟨_, rfl⟩
  rw [hW] at hp hb0
  have h0 := hp.cell (i := 0) (by decide)
  have h78 := hp.cell (i := 78) (by decide)
  rw [show pk 0 = .u8 from rfl] at h0
  rw [show pk 78 = .u8 from rfl] at h78
  have hpl := hp.lt
  have d1 : decide (1 < c 78) = false := by simp; omega
  rw [hv] at h0
  have HP : Hid (∀ W, Calls Tryz.prog 110 #[.int .u8 (v : Int)] W fun e w' => e = .returned (.bool false) ∧ Below W.heap.size W w') := Lib.hid (fun W => by
    have := rpockets_any v W
    rwa [show decide (v = 2) = false by simp; omega] at this)
  have HB := Lib.hid hb0
  clear h1 hb0 hp hv h2
  go_enter Tryz.func51, Tryz.ntmps51
  go_wp2
  go_step3
  go_wp2_with (go_at_call 110; refine (HP.out _).mono ?_; rintro e w1 ⟨rfl, hb1⟩)
  rw [Exit.noGoto_ret]
  go_ret
  exact ⟨_, rfl, World.ownsRow_nil _ _ _ _, below_next HB.out hb1⟩
set_option maxRecDepth 100000 in
set_option maxHeartbeats 1000000 in
theorem drlist_in (c : Nat → Int) (t : Nat) (w : World) (hc : PosOk c) (hT : Tb w) (ht : c 78 = (t : Int)) (ht1 : t ≤ 1) (hv : c 0 = 2) : Calls Tryz.prog 51 #[.agg (posC c)] w (Z.End (A.dall c t 5) w) := by
  have hp := PosAt.new w c
  have hb0 : Below w.heap.size w (w.alloc (.cells (posC c) 31)) := (Below.refl _ _).alloc (Nat.le_refl _) _
  obtain ⟨W, hW⟩ : ∃ W, w.alloc (.cells (posC c) 31) = W := ⟨_, rfl⟩
  rw [hW] at hp hb0
  have h0 := hp.cell (i := 0) (by decide)
  have h78 := hp.cell (i := 78) (by decide)
  rw [show pk 0 = .u8 from rfl] at h0
  rw [show pk 78 = .u8 from rfl] at h78
  have hpl := hp.lt
  rw [hv] at h0
  rw [ht] at h78
  have hbd := pos_bd hc
  have d1 : decide (1 < (t : Int)) = false := by simp; omega
  have htl : (t : Int) < 2 := by omega
  have HT : Hid (∀ w', Below w.heap.size w w' → Tb w') := Lib.hid (fun w' hb => tb_below hT hb)
  have HP : Hid (∀ W, Calls Tryz.prog 110 #[.int .u8 2] W fun e w' => e = .returned (.bool true) ∧ Below W.heap.size W w') := Lib.hid (fun W => rpockets_any 2 W)
  have HA : Hid (∀ W, Calls Tryz.prog 57 #[.agg (posC c)] W fun e w' => e = .returned (.int .u64 (U (S.all c))) ∧ Below W.heap.size W w') := Lib.hid (fun W => all_any c W hbd)
  have HC : Hid (∀ w' : World, PosAt w' w.heap.size c → w'.cell? ⟨w.heap.size, 78, none⟩ = some (.int .u8 (t : Int)) ∧ ∀ k, k < 6 → w'.cell? ⟨w.heap.size, 66 + t * 6 + k, none⟩ = some (.int .u8 (c (66 + 6 * t + k)))) := Lib.hid (fun w' hq => by
    have h78 := hq.cell (i := 78) (by decide)
    rw [ht, show pk 78 = .u8 from rfl] at h78
    refine ⟨h78, fun k hk => ?_⟩
    have := hq.cell (i := 66 + 6 * t + k) (by omega)
    rw [show pk (66 + 6 * t + k) = .u8 by unfold pk; rw [if_neg (by omega), if_neg (by omega), if_pos (by omega)]] at this
    rwa [show 66 + t * 6 + k = 66 + 6 * t + k by omega])
  have HPk : Hid (∀ k, k < 6 → 0 ≤ c (66 + 6 * t + k)) := Lib.hid (fun k hk => (pos_u8 hc (i := 66 + 6 * t + k) (by omega) (by unfold pk; rw [if_neg (by omega), if_neg (by omega), if_pos (by omega)])).1)
  have HBd := Lib.hid hbd
  have HP0 := Lib.hid hp
  have HB0 := Lib.hid hb0
  clear hp hb0 hc hT ht hv hbd
  obtain ⟨i0, hi, hz0, hz1, hz2⟩ := info_parts Tryz.info_Mv
  go_enter Tryz.func51, Tryz.ntmps51
  go_wp2
  go_step3
  go_wp2_with (go_at_call 110; refine (HP.out _).mono ?_; rintro e w1 ⟨rfl, hb1⟩; have HP1 := Lib.hid (HP0.out.below hb1); have HB1 := Lib.hid (below_next HB0.out hb1); clear hb1)
  go_step3
  go_wp2
  go_loopw [3, 18] (fun x i wr => ∃ n : Nat, n ≤ 5 ∧ i = .int .i64 (n : Int) ∧ wr.ownsRow (w.heap.size + 1) 40 5 x (A.dall c t n).length (M.cells (A.dall c t n)) ∧ PosAt wr w.heap.size c ∧ Below w.heap.size w wr) (fun _ i _ => 5 - (intOf i).toNat)
  case atStart => exact ⟨0, Nat.zero_le _, rfl, World.ownsRow_nil _ _ _ _, HP1.out, HB1.out⟩
  case round =>
    obtain ⟨n, hn, rfl, hown, hp, hbr⟩ := hrel
    by_cases hlt : n < 5
    · have hlA := A.dall_len c t n
      obtain ⟨LA, hLA⟩ : ∃ LA, A.dall c t n = LA := ⟨_, rfl⟩
      have hst : A.dall c t (n + 1) = LA ++ A.drowP c t (n + 1) := by rw [A.dall, hLA]
      rw [hLA] at hown hlA
      obtain ⟨c78, hcell⟩ := HC.out wr hp
      have hk1 := hcell (n + 1) (by omega)
      have hwk : IntKind.u8.wrap ((n : Int) + 1) = ((n + 1 : Nat) : Int) := by rw [IntKind.wrap_u8]; omega
      have hwn : wrap64 ((n : Int) + 1) = (n : Int) + 1 := by simp only [wrap64]; omega
      have hk6 : ((n + 1 : Nat) : Int) < 6 := by omega
      have hbl := hp.lt
      clear hcell hLA
      cases hz : (c (66 + 6 * t + (n + 1)) == 0)
      · obtain ⟨bw, hbw⟩ : ∃ bw, A.where' c (n + 1) = bw := ⟨_, rfl⟩
        have hfull : (B.list bw).map (A.dmv (n + 1)) = A.drow c (n + 1) 64 := by
          rw [← hbw]
          exact A.map_row _ c (n + 1) (fun s hs => A.where_sq c (n + 1) s HBd.out hs) 64 (Nat.le_refl _)
        have hst2 : A.dall c t (n + 1) = LA ++ (B.list bw).map (A.dmv (n + 1)) := by
          rw [hst, hfull]
          unfold A.drowP
          rw [if_neg (by simpa using hz)]
        have HS2 := Lib.hid hst2
        have HLs : Hid (∀ W, Tb W → Calls Tryz.prog 111 #[.int .u64 (U bw)] W fun e w' => ∃ v, e = .returned v ∧ w'.ownsRow W.heap.size 3 1 v (B.list bw).length (B.ints (B.list bw)) ∧ Below W.heap.size W w') := Lib.hid (fun W h => blist_any bw W h)
        have hL64 := B.list_len bw
        have hLm := Blist_lt bw
        have HOw := Lib.hid hown
        have HPr := Lib.hid hp
        have HBr := Lib.hid hbr
        clear hown hp hbr hst hst2 hfull
        cases h1 : decide (n = 0)
        · have hkk : ((n : Int) + 1 == 1) = false := by simp at h1 ⊢; omega
          have hbw2 := hbw
          unfold A.where' A.dmask at hbw2
          rw [if_neg (by simp at h1; omega), A.and_all] at hbw2
          have HX := Lib.hid (show bits .xor .u64 (if IntKind.u64.signed = true then -1 else IntKind.u64.max) (U (S.all c)) = U bw by rw [A.xor_if, hbw2])
          clear hbw hbw2 h1
          go_wp2_with (first
            | ((with_reducible refine wp_load_box_g rfl _ rfl ?_); refine ⟨_, _, rfl, HPr.out, ?_⟩)
            | (go_at_call 57; refine (HA.out _).mono ?_; rintro e w2 ⟨rfl, hb2⟩; have HO2 := Lib.hid (owns_below HOw.out hb2); have HP2 := Lib.hid (HPr.out.below hb2); have HB2 := Lib.hid (below_next HBr.out hb2); clear hb2)
            | (go_at_call 111; rw [HX.out]; refine (HLs.out _ (HT.out _ HB2.out)).mono ?_; rintro e w3 ⟨v3, rfl, hown3, hb3⟩; have HO3 := Lib.hid (owns_below HO2.out hb3); have HP3 := Lib.hid (HP2.out.below hb3); have HB3 := Lib.hid (below_next HB2.out hb3); have HI3 := Lib.hid hown3; obtain ⟨ao, cap, rfl, hcap, hcm, _⟩ := row_open1 hown3; clear hown3 hb3))
          have HN := Lib.hid (And.intro hn hbl)
          have HLA := Lib.hid hlA
          clear hn hbl c78 hk1 hlA
          obtain ⟨LB, hLB⟩ : ∃ LB, B.list bw = LB := ⟨_, rfl⟩
          rw [hLB] at HI3 hL64 hLm HS2 ⊢
          have HLm := Lib.hid hLm
          clear hLB hLm
          go_loopw [3, 42] (fun x i wq => ∃ j : Nat, j ≤ LB.length ∧ i = .int .i64 (j : Int) ∧ wq.ownsRow (w.heap.size + 1) 40 5 x (LA ++ (LB.take j).map (A.dmv (n + 1))).length (M.cells (LA ++ (LB.take j).map (A.dmv (n + 1)))) ∧ wq.ownsRow (w.heap.size + 1) 3 1 (.slice ao LB.length cap) LB.length (B.ints LB) ∧ PosAt wq w.heap.size c ∧ Below w.heap.size w wq) (fun _ i _ => LB.length - (intOf i).toNat)
          case atStart => exact ⟨0, Nat.zero_le _, rfl, by rw [List.take_zero, List.map_nil, List.append_nil]; exact HO3.out, owns_low HI3.out (by have := HP2.out.lt; omega), HP3.out, HB3.out⟩
          case round =>
            obtain ⟨j, hj, rfl, hown, hk, hp, hbr⟩ := hrel
            by_cases hlj : j < LB.length
            · obtain ⟨s, hs⟩ : ∃ s, LB[j]? = some s := ⟨LB[j], List.getElem?_eq_getElem hlj⟩
              have hs64 := HLm.out j s hs
              have HTk := Lib.hid (take_snoc LB j s hs)
              have hlen : (LA ++ (LB.take j).map (A.dmv (n + 1))).length ≤ 400 := by have := A.dall_len c t n; have := HLA.out; simp; omega
              obtain ⟨ao2, cap2, e2, hcap2, hcm2, hao2⟩ := row_open1 hk
              cases e2
              obtain ⟨kb, rfl, hkb1, hkb2, hcell⟩ := hao2 (by omega)
              have hc1 := hcell j _ (ints_at LB j s hs)
              have w8 := i8_sq s hs64
              have HK := Lib.hid hk
              have HJ := Lib.hid hj
              clear hao2 hcell hs hk hj
              go_wp2_with (at_builtin; refine wpList_append_own_at _ rfl _ _ 33 rfl (w.heap.size + 1) 40 i0 (.agg #[.int .i8 0, .int .i8 0, .int .u8 0, .int .u8 0, .bool false]) 5 5 Tryz.underlying33 hi hz0 hz1 hz2 rfl (by decide) _ _ _ rfl (hown.alloc _) ⟨_, 0, none⟩ 1 1 (M.cell (A.dmv (n + 1) s)) rfl rfl (mv_row (RowAt.newAt wr (M.cell (A.dmv (n + 1) s)).toArray 40 _ (by first | rfl | simp))) (mv_one _) (by unfold maxLen; omega) (by omega) (by simp; omega) ?_; intro v' w4 hown4 hgrow _ hat)
              have hj2 := HJ.out
              go_roundw
              case measure => simp [intOf]; omega
              refine ⟨j + 1, by omega, by go_num, ?_, ?_, ?_, ?_⟩
              · rw [HTk.out, List.map_append, ← List.append_assoc, List.length_append, List.map_cons, List.map_nil, M.cells_snoc]; exact hown4
              · exact (HK.out.alloc _).kept hgrow (.inr (fun e => owns_ne hown HK.out (by decide) kb e.symm rfl))
              · exact (hp.alloc _).grown hgrow (fun q hq => by have := (hown.lt q hq).1; omega)
              · exact (hbr.alloc hbr.size _).grown hgrow (by simp; have := hbr.size; omega) (fun q hq => by have := (hown.lt q hq).1; omega)
            · obtain rfl : j = LB.length := by omega
              rw [List.take_length] at hown
              have HO4 := Lib.hid hown
              have HP4 := Lib.hid hp
              have HB4 := Lib.hid hbr
              clear hown hk hp hbr hj
              go_wp2
              have hn2 := HN.out.1
              go_roundw
              case rel => exact ⟨n + 1, by omega, by go_num, by rw [HS2.out]; exact HO4.out, HP4.out, HB4.out⟩
              case measure => simp [intOf]; omega
        · have hkk : ((n : Int) + 1 == 1) = true := by simp at h1 ⊢; omega
          have hbw2 := hbw
          unfold A.where' A.dmask at hbw2
          rw [if_pos (by simp at h1; omega)] at hbw2
          have HX := Lib.hid (show bits .and .u64 (bits .xor .u64 (if IntKind.u64.signed = true then -1 else IntKind.u64.max) (U (S.all c))) 72057594037927680 = U bw by rw [A.xor_if, A.and_mid, hbw2])
          clear hbw hbw2 h1
          go_wp2_with (first
            | ((with_reducible refine wp_load_box_g rfl _ rfl ?_); refine ⟨_, _, rfl, HPr.out, ?_⟩)
            | (go_at_call 57; refine (HA.out _).mono ?_; rintro e w2 ⟨rfl, hb2⟩; have HO2 := Lib.hid (owns_below HOw.out hb2); have HP2 := Lib.hid (HPr.out.below hb2); have HB2 := Lib.hid (below_next HBr.out hb2); clear hb2)
            | (go_at_call 111; rw [HX.out]; refine (HLs.out _ (HT.out _ HB2.out)).mono ?_; rintro e w3 ⟨v3, rfl, hown3, hb3⟩; have HO3 := Lib.hid (owns_below HO2.out hb3); have HP3 := Lib.hid (HP2.out.below hb3); have HB3 := Lib.hid (below_next HB2.out hb3); have HI3 := Lib.hid hown3; obtain ⟨ao, cap, rfl, hcap, hcm, _⟩ := row_open1 hown3; clear hown3 hb3))
          have HN := Lib.hid (And.intro hn hbl)
          have HLA := Lib.hid hlA
          clear hn hbl c78 hk1 hlA
          obtain ⟨LB, hLB⟩ : ∃ LB, B.list bw = LB := ⟨_, rfl⟩
          rw [hLB] at HI3 hL64 hLm HS2 ⊢
          have HLm := Lib.hid hLm
          clear hLB hLm
          go_loopw [3, 42] (fun x i wq => ∃ j : Nat, j ≤ LB.length ∧ i = .int .i64 (j : Int) ∧ wq.ownsRow (w.heap.size + 1) 40 5 x (LA ++ (LB.take j).map (A.dmv (n + 1))).length (M.cells (LA ++ (LB.take j).map (A.dmv (n + 1)))) ∧ wq.ownsRow (w.heap.size + 1) 3 1 (.slice ao LB.length cap) LB.length (B.ints LB) ∧ PosAt wq w.heap.size c ∧ Below w.heap.size w wq) (fun _ i _ => LB.length - (intOf i).toNat)
          case atStart => exact ⟨0, Nat.zero_le _, rfl, by rw [List.take_zero, List.map_nil, List.append_nil]; exact HO3.out, owns_low HI3.out (by have := HP2.out.lt; omega), HP3.out, HB3.out⟩
          case round =>
            obtain ⟨j, hj, rfl, hown, hk, hp, hbr⟩ := hrel
            by_cases hlj : j < LB.length
            · obtain ⟨s, hs⟩ : ∃ s, LB[j]? = some s := ⟨LB[j], List.getElem?_eq_getElem hlj⟩
              have hs64 := HLm.out j s hs
              have HTk := Lib.hid (take_snoc LB j s hs)
              have hlen : (LA ++ (LB.take j).map (A.dmv (n + 1))).length ≤ 400 := by have := A.dall_len c t n; have := HLA.out; simp; omega
              obtain ⟨ao2, cap2, e2, hcap2, hcm2, hao2⟩ := row_open1 hk
              cases e2
              obtain ⟨kb, rfl, hkb1, hkb2, hcell⟩ := hao2 (by omega)
              have hc1 := hcell j _ (ints_at LB j s hs)
              have w8 := i8_sq s hs64
              have HK := Lib.hid hk
              have HJ := Lib.hid hj
              clear hao2 hcell hs hk hj
              go_wp2_with (at_builtin; refine wpList_append_own_at _ rfl _ _ 33 rfl (w.heap.size + 1) 40 i0 (.agg #[.int .i8 0, .int .i8 0, .int .u8 0, .int .u8 0, .bool false]) 5 5 Tryz.underlying33 hi hz0 hz1 hz2 rfl (by decide) _ _ _ rfl (hown.alloc _) ⟨_, 0, none⟩ 1 1 (M.cell (A.dmv (n + 1) s)) rfl rfl (mv_row (RowAt.newAt wr (M.cell (A.dmv (n + 1) s)).toArray 40 _ (by first | rfl | simp))) (mv_one _) (by unfold maxLen; omega) (by omega) (by simp; omega) ?_; intro v' w4 hown4 hgrow _ hat)
              have hj2 := HJ.out
              go_roundw
              case measure => simp [intOf]; omega
              refine ⟨j + 1, by omega, by go_num, ?_, ?_, ?_, ?_⟩
              · rw [HTk.out, List.map_append, ← List.append_assoc, List.length_append, List.map_cons, List.map_nil, M.cells_snoc]; exact hown4
              · exact (HK.out.alloc _).kept hgrow (.inr (fun e => owns_ne hown HK.out (by decide) kb e.symm rfl))
              · exact (hp.alloc _).grown hgrow (fun q hq => by have := (hown.lt q hq).1; omega)
              · exact (hbr.alloc hbr.size _).grown hgrow (by simp; have := hbr.size; omega) (fun q hq => by have := (hown.lt q hq).1; omega)
            · obtain rfl : j = LB.length := by omega
              rw [List.take_length] at hown
              have HO4 := Lib.hid hown
              have HP4 := Lib.hid hp
              have HB4 := Lib.hid hbr
              clear hown hk hp hbr hj
              go_wp2
              have hn2 := HN.out.1
              go_roundw
              case rel => exact ⟨n + 1, by omega, by go_num, by rw [HS2.out]; exact HO4.out, HP4.out, HB4.out⟩
              case measure => simp [intOf]; omega
      · have HS2 := Lib.hid (show A.dall c t (n + 1) = LA by rw [hst]; unfold A.drowP; rw [if_pos (by simpa using hz), List.append_nil])
        have HOw := Lib.hid hown
        have HPr := Lib.hid hp
        have HBr := Lib.hid hbr
        clear hown hp hbr hst
        go_wp2
        go_roundw
        case rel => exact ⟨n + 1, by omega, by go_num, by rw [HS2.out]; exact HOw.out, HPr.out, HBr.out⟩
        case measure => simp [intOf]; omega
    · obtain rfl : n = 5 := by omega
      go_wp2
      rw [Exit.noGoto_ret]
      go_ret
      exact ⟨_, rfl, owns_low hown (by omega), hbr⟩
end Go.Proofs.YtgkndhpolcnjbaaGreatDoor
namespace Go.Proofs.YtgkndhpolcnjbaaGreatDoor
open Go.RowKit Go.Sort
attribute [local go_sem] Oper.semAt_some
theorem A.posR {w : World} {g : Nat} {c : Nat → Int} (h : PosAt w g c) : w.rangeAt g 0 (posL c) := fun j v hv => by
  rw [Nat.zero_add]
  simp only [World.cell?, h.heap]
  simpa [posC] using hv
theorem A.next_g {g : Nat} {c : Nat → Int} {w w1 w2 : World} (h : Below g w w1) (hp : PosAt w1 g c) (hb : Below w1.heap.size w1 w2) : Below g w w2 := h.trans (hb.mono (Nat.le_of_lt hp.lt))
theorem Tryz.info_slM : (Tryz.prog.info? 33).map (fun i => (i.zero, i.size)) = some (some (.slice none 0 0), 1) := by kernel_rfl
theorem A.all_len (c : Nat → Int) (hc : PosOk c) : (A.all c).length ≤ 40000 := by
  unfold A.all
  have h1 := lst_len c
  have h2 := T.clist_len c
  have h3 : (A.drops c).length ≤ 320 := by
    rw [A.drops_eq c (pos_bd hc)]
    split
    · have := A.dall_len c (c 78).toNat 5
      omega
    · simp
  simp only [List.length_append, List.length_map]
  omega
theorem dlist_any (c : Nat → Int) (w : World) (hc : PosOk c) (hT : Tb w) : Calls Tryz.prog 51 #[.agg (posC c)] w (Z.End (A.drops c) w) := by
  rw [A.drops_eq c (pos_bd hc)]
  by_cases h1 : c 78 ≤ 1
  · obtain ⟨v0, _⟩ := pos_u8 hc (i := 0) (by decide) rfl
    obtain ⟨v, hv⟩ : ∃ v : Nat, c 0 = (v : Int) := ⟨(c 0).toNat, by omega⟩
    obtain ⟨t0, _⟩ := pos_u8 hc (i := 78) (by decide) rfl
    by_cases h2 : v = 2
    · rw [if_pos ⟨h1, by omega⟩]
      exact drlist_in c (c 78).toNat w hc hT (by omega) (by omega) (by omega)
    · rw [if_neg (fun h => h2 (by have := h.2; omega))]
      exact drlist_var c v w h1 hv h2
  · rw [if_neg (fun h => h1 h.1)]
    exact drlist_turn c w h1
section
variable {P : Program} {ops : Array Oper} {Q : Exit → Act → World → Prop} {md : Region.Mode} {S : World → Prop} {fuel : Nat} {listed : Array Bool} {a : Act} {w : World}
theorem A.takeSlice (i : Nat) (d : Option Tmp) (t e : TypeId) (len : Nat) (parts : Array (Nat × Operand)) (cells : Array Value) (ie : TypeInfo) (z : Value) (ho : Nat.blt i ops.size = true) (hr : Region.ready md ops listed = [i]) (hw : Region.wanted (ops.getD i default) (yielded ops a.tmps) = true)
    (hd : (ops.getD i default).dst = d) (hop : (ops.getD i default).op = .buildSlice t len parts) (hu : P.underlying t = some (.slice e)) (hie : P.info? e = some ie) (hz : ie.zero = some z) (hsmall : ¬ len * ie.size > 2 ^ 24) (hpos : ¬ len * ie.size = 0)
    (hf : Instr.fill (fun i => some (i * ie.size, ie.size)) ((Array.range (len * ie.size)).map (z.cells[· % z.cells.size]!)) (parts.map fun (i, x) => (i, a.eval x)).toList = some cells)
    (h : S (w.alloc (.cells cells e)) ∧ wpAnyH P md ops Q S fuel (listed.setIfInBounds i true) (a.put d (.slice (some ⟨w.heap.size, 0, none⟩) len len)) (w.alloc (.cells cells e))) : wpAnyH P md ops Q S (fuel + 1) listed a w := by
  refine takeOne i ho hr hw ?_
  refine wp_buildSlice t e len parts hop cells ie z hu hie hz hsmall hpos hf ?_
  rw [hd]
  exact h
end
set_option maxRecDepth 100000 in
set_option maxHeartbeats 4000000 in
theorem aall_any (c : Nat → Int) (w : World) (hc : PosOk c) (hT : Tb w) :
    Calls Tryz.prog 13 #[.agg (posC c)] w (Z.End (A.all c) w) := by
  have hp := PosAt.new w c
  have hb0 : Below w.heap.size w (w.alloc (.cells (posC c) 31)) := (Below.refl _ _).alloc (Nat.le_refl _) _
  have hT0 : Tb (w.alloc (.cells (posC c) 31)) := tb_below hT hb0
  obtain ⟨g, hg⟩ : ∃ g, w.heap.size = g := ⟨_, rfl⟩
  have hp31 := Tryz.underlying31
  have HLen := Lib.hid (A.all_len c hc)
  go_enter Tryz.func13, Tryz.ntmps13
  go_wp2_with fail
  rw [hg] at hp hb0
  try rw [hg]
  obtain ⟨W, hW⟩ : ∃ W, w.alloc (.cells (posC c) 31) = W := ⟨_, rfl⟩
  rw [hW] at hp hb0 hT0 ⊢
  refine wp_region_held (S := fun w' => PosAt w' g c ∧ Below g w w') (by kernel_rfl) ?_
  have hSd : PosAt W.drew g c ∧ Below g w W.drew := ⟨⟨hp.heap⟩, M.below_drew hb0 1⟩
  have hTd : Tb W.drew := tb_below hT0 (M.below_drew (Below.refl _ _) 1)
  clear hp hb0 hT0 hW hT
  obtain ⟨V, hV⟩ : ∃ V, W.drew = V := ⟨_, rfl⟩
  rw [hV] at hSd hTd
  rw [show ({ heap := W.heap, tape := W.tape, drawn := W.drawn + 1, os := W.os, output := W.output } : World) = V from hV]
  clear hV
  refine takeD 0 (some 3) (.agg (posC c)) (by kernel_rfl) (by kernel_rfl) (by kernel_rfl) (by kernel_rfl) (by kernel_rfl) (fun _ _ _ h => h) (yieldsIf_load_mid (by kernel_rfl) 31 (.tmp 1) (by kernel_rfl) g 0 (by kernel_rfl) (posL c) _ (fun _ h => A.posR h.1) hp31 rfl (A.posL_info c)) hSd ?_
  simp only [Act.put, List.setIfInBounds_toArray, List.set_cons_succ, List.set_cons_zero]
  refine takeD 2 (some 5) (.agg (posC c)) (by kernel_rfl) (by kernel_rfl) (by kernel_rfl) (by kernel_rfl) (by kernel_rfl) (fun _ _ _ h => h) (yieldsIf_load_mid (by kernel_rfl) 31 (.tmp 1) (by kernel_rfl) g 0 (by kernel_rfl) (posL c) _ (fun _ h => A.posR h.1) hp31 rfl (A.posL_info c)) hSd ?_
  simp only [Act.put, List.setIfInBounds_toArray, List.set_cons_succ, List.set_cons_zero]
  refine takeD 4 (some 7) (.agg (posC c)) (by kernel_rfl) (by kernel_rfl) (by kernel_rfl) (by kernel_rfl) (by kernel_rfl) (fun _ _ _ h => h) (yieldsIf_load_mid (by kernel_rfl) 31 (.tmp 1) (by kernel_rfl) g 0 (by kernel_rfl) (posL c) _ (fun _ h => A.posR h.1) hp31 rfl (A.posL_info c)) hSd ?_
  simp only [Act.put, List.setIfInBounds_toArray, List.set_cons_succ, List.set_cons_zero]
  refine takeCallE 1 (some 4) 25 (#[.agg (posC c)]) (fun v w9 => w9.ownsRow V.heap.size 40 5 v (D.lst c).length (M.cells (D.lst c)) ∧ Below V.heap.size V w9) (by kernel_rfl) (by kernel_rfl) (by kernel_rfl) (by kernel_rfl) (by kernel_rfl) (plist_any c _ hc hTd) (fun v1 w1 hR1 => ?_)
  obtain ⟨a1, k1, rfl, _, _, _⟩ := M.row_open hR1.1
  have r1 := M.reads_own hR1.1
  obtain ⟨n1, hn1⟩ : ∃ n1, (D.lst c).length = n1 := ⟨_, rfl⟩
  rw [hn1] at r1 ⊢
  simp only [Act.put, List.setIfInBounds_toArray, List.set_cons_succ, List.set_cons_zero]
  have hS1 : PosAt w1 g c ∧ Below g w w1 := ⟨hSd.1.below hR1.2, A.next_g hSd.2 hSd.1 hR1.2⟩
  have hT1 := tb_below hTd hR1.2
  refine ⟨hS1, ?_⟩
  clear hSd hTd hR1
  refine takeCallE 3 (some 6) 50 (#[.agg (posC c)]) (fun v w9 => w9.ownsRow (w1.heap.size + 1) 40 5 v ((T.clist c).map T.toMv).length (M.cells ((T.clist c).map T.toMv)) ∧ Below w1.heap.size w1 w9) (by kernel_rfl) (by kernel_rfl) (by kernel_rfl) (by kernel_rfl) (by kernel_rfl) (clist_row c _ _ hc hT1 rfl) (fun v2 w2 hR2 => ?_)
  obtain ⟨a2, k2, rfl, _, _, _⟩ := M.row_open hR2.1
  have r2 := M.reads_own hR2.1
  obtain ⟨n2, hn2⟩ : ∃ n2, ((T.clist c).map T.toMv).length = n2 := ⟨_, rfl⟩
  rw [hn2] at r2 ⊢
  simp only [Act.put, List.setIfInBounds_toArray, List.set_cons_succ, List.set_cons_zero]
  have hS2 : PosAt w2 g c ∧ Below g w w2 := ⟨hS1.1.below hR2.2, A.next_g hS1.2 hS1.1 hR2.2⟩
  have hT2 := tb_below hT1 hR2.2
  replace r1 := r1.below hR2.2
  refine ⟨hS2, ?_⟩
  clear hS1 hT1 hR2
  refine takeCallE 5 (some 8) 51 (#[.agg (posC c)]) (fun v w9 => w9.ownsRow w2.heap.size 40 5 v (A.drops c).length (M.cells (A.drops c)) ∧ Below w2.heap.size w2 w9) (by kernel_rfl) (by kernel_rfl) (by kernel_rfl) (by kernel_rfl) (by kernel_rfl) (dlist_any c _ hc hT2) (fun v3 w3 hR3 => ?_)
  obtain ⟨a3, k3, rfl, _, _, _⟩ := M.row_open hR3.1
  have r3 := M.reads_own hR3.1
  obtain ⟨n3, hn3⟩ : ∃ n3, (A.drops c).length = n3 := ⟨_, rfl⟩
  rw [hn3] at r3 ⊢
  simp only [Act.put, List.setIfInBounds_toArray, List.set_cons_succ, List.set_cons_zero]
  have hS3 : PosAt w3 g c ∧ Below g w w3 := ⟨hS2.1.below hR3.2, A.next_g hS2.2 hS2.1 hR3.2⟩
  replace r1 := r1.below hR3.2
  replace r2 := r2.below hR3.2
  refine ⟨hS3, ?_⟩
  clear hS2 hT2 hR3
  obtain ⟨ie, hie, hz0, hz1⟩ : ∃ ie, Tryz.prog.info? 33 = some ie ∧ ie.zero = some (.slice none 0 0) ∧ ie.size = 1 := by
    have h := Tryz.info_slM
    cases e : Tryz.prog.info? 33 with
    | none => rw [e] at h; cases h
    | some i =>
      rw [e] at h
      simp only [Option.map_some, Option.some.injEq, Prod.mk.injEq] at h
      exact ⟨i, rfl, h.1, h.2⟩
  refine A.takeSlice 6 (some 9) 142 33 3 #[(0, .tmp 4), (1, .tmp 6), (2, .tmp 8)] #[.slice a1 n1 k1, .slice a2 n2 k2, .slice a3 n3 k3] ie (.slice none 0 0) (by kernel_rfl) (by kernel_rfl) (by kernel_rfl) (by kernel_rfl) (by kernel_rfl) (by kernel_rfl) hie hz0 (by rw [hz1]; decide) (by rw [hz1]; decide) (by rw [hz1]; kernel_rfl) ?_
  simp only [Act.put, List.setIfInBounds_toArray, List.set_cons_succ, List.set_cons_zero]
  have hRw := RowAt.new w3 #[.slice a1 n1 k1, .slice a2 n2 k2, .slice a3 n3 k3] 33
  have hA4 : Below w3.heap.size w3 (w3.alloc (.cells #[.slice a1 n1 k1, .slice a2 n2 k2, .slice a3 n3 k3] 33)) := (Below.refl _ _).alloc (Nat.le_refl _) _
  obtain ⟨w4, hw4⟩ : ∃ w4, w3.alloc (.cells #[.slice a1 n1 k1, .slice a2 n2 k2, .slice a3 n3 k3] 33) = w4 := ⟨_, rfl⟩
  rw [hw4] at hRw hA4 ⊢
  have hS4 : PosAt w4 g c ∧ Below g w w4 := ⟨hS3.1.below hA4, A.next_g hS3.2 hS3.1 hA4⟩
  replace r1 := r1.below hA4
  replace r2 := r2.below hA4
  replace r3 := r3.below hA4
  have hlt4 := hRw.lt
  obtain ⟨g3, hg3⟩ : ∃ g3, w3.heap.size = g3 := ⟨_, rfl⟩
  rw [hg3] at hRw hlt4 ⊢
  refine ⟨hS4, ?_⟩
  have hcat : M.cat [(Value.slice a1 n1 k1, D.lst c), (Value.slice a2 n2 k2, (T.clist c).map T.toMv), (Value.slice a3 n3 k3, A.drops c)] 3 = A.all c := by
    unfold M.cat A.all
    simp
  have hCc := concat_any g3 3 [(Value.slice a1 n1 k1, D.lst c), (Value.slice a2 n2 k2, (T.clist c).map T.toMv), (Value.slice a3 n3 k3, A.drops c)] w4 (Nat.le_refl _) (by simp) (fun j x hj => by
    match j, hj with
    | 0, hj => cases hj; exact hRw.cell 0
    | 1, hj => cases hj; exact hRw.cell 1
    | 2, hj => cases hj; exact hRw.cell 2
    | j + 3, hj => cases hj) hlt4 (fun j x hj => by
    match j, hj with
    | 0, hj => cases hj; exact r1
    | 1, hj => cases hj; exact r2
    | 2, hj => cases hj; exact r3
    | j + 3, hj => cases hj) (by
    have := HLen.out
    show (M.cat _ 3).length ≤ 100000
    rw [hcat]; omega)
  have hCd : Calls Tryz.prog 49 #[.slice (some ⟨g3, 0, none⟩) 3 3] w4 fun e w' => ∃ v, e = .returned v ∧ (w'.ownsRow w4.heap.size 40 5 v (A.all c).length (M.cells (A.all c)) ∧ Below w4.heap.size w4 w') := by
    rw [← hcat]; exact hCc
  clear hCc hRw hA4 r1 r2 r3 hw4 hS3
  refine takeCallE 7 (some 10) 49 (#[.slice (some ⟨g3, 0, none⟩) 3 3]) (fun v w9 => w9.ownsRow w4.heap.size 40 5 v (A.all c).length (M.cells (A.all c)) ∧ Below w4.heap.size w4 w9) (by kernel_rfl) (by kernel_rfl) (by kernel_rfl) (by kernel_rfl) (by kernel_rfl) hCd (fun v5 w5 hR5 => ?_)
  simp only [Act.put, List.setIfInBounds_toArray, List.set_cons_succ, List.set_cons_zero]
  have hS5 : PosAt w5 g c ∧ Below g w w5 := ⟨hS4.1.below hR5.2, A.next_g hS4.2 hS4.1 hR5.2⟩
  refine ⟨hS5, ?_⟩
  refine takeD 8 (some 2) v5 (by kernel_rfl) (by kernel_rfl) (by kernel_rfl) (by kernel_rfl) (by kernel_rfl) (fun _ _ _ h => h) (yi_pure (v0 := v5) (by kernel_rfl) (fun _ => by kernel_rfl) rfl) hS5 ?_
  simp only [Act.put, List.setIfInBounds_toArray, List.set_cons_succ, List.set_cons_zero]
  refine wpAnyH_done (by kernel_rfl) ?_ _
  have HF := Lib.hid (And.intro hR5.1 (And.intro hS4.2 hS5.2))
  clear hS5 hR5 hS4
  go_wp2
  go_ret
  exact ⟨_, rfl, owns_low HF.out.1 (by have := HF.out.2.1.size; omega), hg ▸ HF.out.2.2⟩
end Go.Proofs.YtgkndhpolcnjbaaGreatDoor
