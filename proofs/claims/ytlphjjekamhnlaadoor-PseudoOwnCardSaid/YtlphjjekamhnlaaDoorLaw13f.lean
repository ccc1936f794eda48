/- The law PseudoBack. -/
import Derived.Test.YtlphjjekamhnlaaDoorCmpMv
namespace Go.Proofs.YtlphjjekamhnlaaDoor
open Go.RowKit Go.Sort

theorem wpl_load_at_g {ops : Array Oper} {rest : List Oper} {o : Oper} {a : Act} {w : World} {Q : Exit → Act → World → Prop} (hw : Region.wanted o (yielded ops a.tmps) = true) (x : Operand) (ho : o.op = .load 36 x)
    (h : ∃ (b off : Nat) (m : Mv), a.eval x = .pointer (some ⟨b, off, none⟩) ∧ M.At w b off m ∧ wpList Tryd.prog ops Q rest (a.put o.dst (.agg #[.int .i8 m.1, .int .i8 m.2.1, .int .u8 m.2.2.1, .int .u8 m.2.2.2.1, .bool m.2.2.2.2])) w) : wpList Tryd.prog ops Q (o :: rest) a w := by
  obtain ⟨b, off, m, hx, hA, h⟩ := h
  refine wpList_step fun K hK => ?_
  rw [if_pos hw]
  exact wp_load_mid 36 x ho b off hx (M.cell m) _ hA Tryd.underlying36 rfl Tryd.size_Mv (hK _ _ h)
theorem wpl_eql_g {ops : Array Oper} {rest : List Oper} {o : Oper} {a : Act} {w : World} {Q : Exit → Act → World → Prop} (hw : Region.wanted o (yielded ops a.tmps) = true) (x y : Operand) (t : TypeId) (ho : o.op = .binOp .eql 36 x y t)
    (h : ∃ m n : Mv, a.eval x = .agg #[.int .i8 m.1, .int .i8 m.2.1, .int .u8 m.2.2.1, .int .u8 m.2.2.2.1, .bool m.2.2.2.2] ∧ a.eval y = .agg #[.int .i8 n.1, .int .i8 n.2.1, .int .u8 n.2.2.1, .int .u8 n.2.2.2.1, .bool n.2.2.2.2] ∧ wpList Tryd.prog ops Q rest (a.put o.dst (.bool (m == n))) w) : wpList Tryd.prog ops Q (o :: rest) a w := by
  obtain ⟨m, n, hx, hy, h⟩ := h
  refine wpList_step fun K hK => ?_
  rw [if_pos hw]
  unfold Oper.wp
  simp only [exec_eql_mv a.eval o x y t m n w ho hx hy]
  exact hK _ _ h
theorem posOk_set (c : Nat → Int) (n : Nat) (v : Int) (hn : n < 64) (h0 : 0 ≤ v) (h1 : v ≤ 255) (hc : PosOk c) : PosOk (upd c (1 + n) v) := fun i hi => by
  unfold upd
  split
  · rename_i h
    rw [h, pk_board hn]
    exact all8 (fun x => (Lit.int .u8 x).wf = true) (by decide +kernel) v h0 h1
  · exact hc i hi
theorem back13 (c : Nat → Int) (a b kk : Nat) (hc : PosOk c) (hl : law13 c = true) (ha : a < 64) (hb : b < 64) (hm : Z.mv a b kk ∈ D.lst c) (hx : c (1 + a) % 8 ≠ 1) : Z.mv b a 0 ∈ D.lst (upd (upd c (1 + a) 0) (1 + b) (c (1 + a))) := by
  obtain ⟨t0, _⟩ := pos_u8 hc (i := 78) (by decide) rfl
  unfold law13 at hl
  simp only [Bool.and_eq_true, decide_eq_true_eq] at hl
  obtain ⟨_, h2, h9, _⟩ := hl
  have hok : Z.ok c = true := by
    unfold Z.ok
    rw [decide_eq_true (by omega)]
  have h78 : upd (upd c (1 + a) 0) (1 + b) (c (1 + a)) 78 = c 78 := by unfold upd; rw [if_neg (by omega), if_neg (by omega)]
  have h0 : upd (upd c (1 + a) 0) (1 + b) (c (1 + a)) 0 = c 0 := by unfold upd; rw [if_neg (by omega), if_neg (by omega)]
  have hok' : Z.ok (upd (upd c (1 + a) 0) (1 + b) (c (1 + a))) = true := by
    unfold Z.ok at hok ⊢
    rw [h78, h0]
    exact hok
  obtain ⟨t, ht⟩ : ∃ t : Nat, c 78 = (t : Int) := ⟨(c 78).toNat, by omega⟩
  unfold D.lst at hm ⊢
  rw [if_pos hok, ht, Int.toNat_natCast] at hm
  rw [if_pos hok', h78, ht, Int.toNat_natCast]
  refine list_back c t a b kk (pos_bd hc) ha hb (by omega) hm ?_
  obtain ⟨x0, x1⟩ := pos_bd hc a ha
  rw [D.kind_of _ x0 x1]
  split
  · decide
  · exact hx

set_option maxRecDepth 100000 in
set_option maxHeartbeats 16000000 in
theorem pseudoBack_walk (c : Nat → Int) (w : World) (hc : PosOk c) (hT : Tb w) :
    Calls Tryd.prog 4 #[.agg (posC c)] w fun e w' => e = .returned (.bool true) ∧ Below w.heap.size w w' := by
  have HT := Lib.hid (fun W (hb : Below w.heap.size w W) => tb_below hT hb)
  have HC := Lib.hid hc
  have hp := PosAt.new w c
  have hb0 : Below w.heap.size w (w.alloc (.cells (posC c) 31)) := (Below.refl _ _).alloc (Nat.le_refl _) _
  obtain ⟨W, hW⟩ : ∃ W, w.alloc (.cells (posC c) 31) = W := ⟨_, rfl⟩
  rw [hW] at hp hb0
  clear hT hc
  cases hl : law13 c
  · have HL := Lib.hid hl
    clear hl
    go_enter Tryd.func4, Tryd.ntmps4
    go_wp2_with (first
      | ((with_reducible refine wp_load_box rfl _ rfl ?_); refine ⟨_, _, rfl, hp, ?_⟩)
      | (go_at_call 16; refine (lawful13_eq c false _ HC.out HL.out).mono ?_; rintro e w3 ⟨rfl, hb3⟩; have HB3 := Lib.hid (below_next hb0 hb3))
      | (go_at_call 15; refine (awake13_any _ (HT.out _ HB3.out)).mono ?_; rintro e w4 ⟨rfl, hb4⟩))
    go_ret
    exact ⟨rfl, below_next HB3.out hb4⟩
  · have HL := Lib.hid hl
    clear hl
    have HL1 : Hid (∀ w, Tb w → Calls Tryd.prog 12 #[.agg (posC c)] w (Z.End (D.lst c) w)) := Lib.hid (fun w hw => plist_any c w HC.out hw)
    have HSQ : Hid (∀ x ∈ D.lst c, ∃ a b k : Nat, a < 64 ∧ b < 64 ∧ x = Z.mv a b k) := Lib.hid (fun x hx => (lst_sq c x hx).2)
    have hl1 := lst_len c
    go_enter Tryd.func4, Tryd.ntmps4
    go_wp2_with (first
      | ((with_reducible refine wp_load_box rfl _ rfl ?_); refine ⟨_, _, rfl, hp, ?_⟩)
      | (go_at_call 16; refine (lawful13_eq c true _ HC.out HL.out).mono ?_; rintro e w3 ⟨rfl, hb3⟩; have HB3 := Lib.hid (below_next hb0 hb3); have hp3 := hp.below hb3; clear hb3)
      | ((with_reducible refine wp_load_box rfl _ rfl ?_); refine ⟨_, _, rfl, hp3, ?_⟩)
      | (go_at_call 12; (with_reducible refine (HL1.out _ (HT.out _ HB3.out)).mono ?_); rintro e uu4 ⟨v4, rfl, hown4, hb⟩; have HB4 := Lib.hid (below_next HB3.out hb); have HP4 := Lib.hid (hp3.below hb); obtain ⟨ao1, cap1, rfl, hcp1, hcm1, hat1⟩ := mrow_open hb hown4; clear hb hown4 hp3 hcp1 hcm1))
    obtain ⟨L, hL⟩ : ∃ L, D.lst c = L := ⟨_, rfl⟩
    rw [hL] at hl1 HSQ hat1 ⊢
    have HA1 := Lib.hid hat1
    have HLL := Lib.hid hL
    clear hat1 hL hp hb0 hW HL1
    go_loopw [4] (fun i wr => ∃ k : Nat, k ≤ L.length ∧ i = .int .i64 (k : Int) ∧ Below uu4.heap.size uu4 wr) (fun i _ => L.length - (intOf i).toNat)
    case atStart => exact ⟨0, Nat.zero_le _, rfl, Below.refl _ _⟩
    case round =>
      obtain ⟨k, hk, rfl, hbr⟩ := hrel
      by_cases hlt : k < L.length
      · obtain ⟨x1, hx1⟩ : ∃ x1, L[k]? = some x1 := ⟨L[k], List.getElem?_eq_getElem hlt⟩
        have hmem := List.mem_of_getElem? hx1
        obtain ⟨b1, hao1, hb1, hcell1⟩ := HA1.out (by omega)
        cases hao1
        have hAr := (hcell1 k x1 hx1).below hbr
        obtain ⟨a, b, kk, ha, hb64, hxe⟩ := HSQ.out x1 hmem
        rw [hxe] at hmem hAr
        have m0 := hAr.five.1
        have m1 := hAr.five.2.1
        have hpr := HP4.out.below hbr
        have hsa := bd_cell hpr.heap a ha
        have hsb := bd_cell hpr.heap b hb64
        obtain ⟨x0, x255⟩ := pos_bd HC.out a ha
        obtain ⟨x, hx⟩ : ∃ x, c (1 + a) = x := ⟨_, rfl⟩
        obtain ⟨y, hy⟩ : ∃ y, c (1 + b) = y := ⟨_, rfl⟩
        rw [hx] at hsa x0 x255
        rw [hy] at hsb
        have hxm : x.tmod 8 = x % 8 := Int.tmod_eq_emod_of_nonneg x0
        have HMEM := Lib.hid hmem
        have HX := Lib.hid hx
        have HY := Lib.hid hy
        have HXB := Lib.hid (And.intro x0 x255)
        have HH := Lib.hid hlt
        have HPR := Lib.hid hpr
        have HBR := Lib.hid hbr
        have hlb1 : b1 < wr.heap.size := by have := hbr.size; omega
        have HS := step_num' k L.length hlt
        have HS2 := step_num k L.length hlt (by omega)
        have HST := Lib.hid (And.intro HS HS2)
        clear hcell1 hx1 hmem hAr hk hxe hb1 hpr hx hy hbr HS HS2 x0 x255
        go_wp2_with fail
        refine region_below (by kernel_rfl) (by kernel_rfl) ?_
        repeat (go_big_quiet_step (fail))
        refine wpQuiet_nil ?_
        intro w5 hb5
        have hp5 := HPR.out.below hb5
        have hs5a := bd_cell hp5.heap a ha
        have hs5b := bd_cell hp5.heap b hb64
        rw [HX.out] at hs5a
        have HB5 := Lib.hid (below_next HBR.out hb5)
        rw [HY.out] at hs5b
        clear hb5 m0 m1 hsa hsb
        by_cases e1 : x % 8 = 1
        · have d1 : (x % 8 == 1) = true := by simpa using e1
          clear e1 hp5
          go_wp2
          exact ⟨⟨k + 1, HH.out, by first | exact HST.out.1.1 | exact HST.out.2.1, HB5.out⟩, by first | exact HST.out.1.2 | exact HST.out.2.2⟩
        have d1 : (x % 8 == 1) = false := by simpa using e1
        by_cases e2 : y = 0
        case neg =>
          have d2 : (y != 0) = true := by simpa using e2
          clear e1 e2 hp5
          go_wp2
          exact ⟨⟨k + 1, HH.out, by first | exact HST.out.1.1 | exact HST.out.2.1, HB5.out⟩, by first | exact HST.out.1.2 | exact HST.out.2.2⟩
        have d2 : (y != 0) = false := by simpa using e2
        obtain ⟨c', hc'⟩ : ∃ c', upd (upd c (1 + a) 0) (1 + b) x = c' := ⟨_, rfl⟩
        have HIN : Hid (((b : Int), (a : Int), 0, 0, false) ∈ D.lst c') := Lib.hid (by
          have := back13 c a b kk HC.out HL.out ha hb64 (by rw [HLL.out]; exact HMEM.out) (by rw [HX.out]; exact e1)
          rw [HX.out, hc'] at this
          exact this)
        have HL2 : Hid (∀ w, Tb w → Calls Tryd.prog 12 #[.agg (posC c')] w (Z.End (D.lst c') w)) := Lib.hid (fun w hw => plist_any c' w (by rw [← hc']; exact posOk_set _ b x hb64 HXB.out.1 HXB.out.2 (posOk_zero c a ha HC.out)) hw)
        have hl2 := lst_len c'
        have HC' := Lib.hid hc'
        have hw5 := HB5.out.size
        have hlp5 := hp5.lt
        clear e1 e2 hc'
        go_wp2_with (first
          | ((with_reducible refine wp_load_box rfl _ rfl ?_); refine ⟨_, _, rfl, hp5, ?_⟩)
          | ((with_reducible refine wp_store_box rfl _ _ rfl ?_); refine ⟨w5.heap.size, c, rfl, rfl, ⟨_, heap_alloc_new _ _, (by kernel_rfl)⟩, ?_⟩; intro W6 hP6 hq6; have HB6 := Lib.hid (hP6.below (HB5.out.alloc HB5.out.size _) HB5.out.size))
          | ((with_reducible refine wp_store_cell rfl _ _ _ rfl ?_); refine ⟨w5.heap.size, 1 + a, _, _, _, rfl, rfl, hq6, (by omega), (pk_board ha), Tryd.size_u8, ?_⟩; intro W7 hP7 hq7; have HB7 := Lib.hid (hP7.below HB6.out hw5))
          | ((with_reducible refine wp_store_cell rfl _ _ _ rfl ?_); refine ⟨w5.heap.size, 1 + b, _, _, _, rfl, rfl, hq7, (by omega), (pk_board hb64), Tryd.size_u8, ?_⟩; intro W8 hP8 hq8; have HB8 := Lib.hid (hP8.below HB7.out hw5); rw [HC'.out] at hq8)
          | ((with_reducible refine wp_load_box rfl _ rfl ?_); refine ⟨_, _, rfl, hq8, ?_⟩)
          | (go_at_call 12; (with_reducible refine (HL2.out _ (HT.out _ (below_next HB4.out HB8.out))).mono ?_); rintro e w9 ⟨v9, rfl, hown9, hb9⟩; have HB9 := Lib.hid (below_next HB8.out hb9); obtain ⟨ao2, cap2, rfl, hcp2, hcm2, hat2⟩ := mrow_open hb9 hown9; clear hb9 hown9 hcp2 hcm2))
        obtain ⟨M2, hM2⟩ : ∃ M2, D.lst c' = M2 := ⟨_, rfl⟩
        rw [hM2] at hl2 HIN hat2 ⊢
        have HA2 := Lib.hid hat2
        have hm2 : decide ((k : Int) < (L.length : Int)) = true := by simp; exact HH.out
        clear hat2 hM2 HL2 hq8 hq7 hq6 hP6 hP7 hP8 hp5 hs5a hs5b d1 d2 ha hb64 hw5 hlp5 hlb1
        try rw [hm2]
        clear hm2
        go_loopw [9, 11] (fun v j wr => ∃ q : Nat, q ≤ M2.length ∧ v = .bool (anyTo M2 ((b : Int), (a : Int), 0, 0, false) q) ∧ j = .int .i64 (q : Int) ∧ Below w9.heap.size w9 wr) (fun _ j _ => M2.length - (intOf j).toNat)
        case atStart => exact ⟨0, Nat.zero_le _, rfl, rfl, Below.refl _ _⟩
        case round =>
          obtain ⟨q, hq, rfl, rfl, hbr⟩ := hrel
          by_cases hlq : q < M2.length
          · obtain ⟨z, hz⟩ : ∃ z, M2[q]? = some z := ⟨M2[q], List.getElem?_eq_getElem hlq⟩
            obtain ⟨b2, hao2, hb2, hcell2⟩ := HA2.out (by omega)
            cases hao2
            have hAz := (hcell2 q z hz).below hbr
            have hsu := anyTo_succ ((b : Int), (a : Int), 0, 0, false) hz
            have HQ := Lib.hid hlq
            have HBQ := Lib.hid hbr
            obtain ⟨v0, hv0⟩ : ∃ v0, anyTo M2 ((b : Int), (a : Int), 0, 0, false) q = v0 := ⟨_, rfl⟩
            rw [hv0] at hsu ⊢
            have HSU := Lib.hid hsu
            clear hcell2 hz hsu hv0 hbr hq hb2
            cases v0
            · go_wp2_with (first
                | ((with_reducible refine wpl_load_at_g rfl _ rfl ?_); refine ⟨b2, q * 5, z, rfl, hAz, ?_⟩)
                | ((with_reducible refine wpl_eql_g rfl _ _ _ rfl ?_); refine ⟨z, ((b : Int), (a : Int), 0, 0, false), rfl, rfl, ?_⟩))
              have HSq := step_num' q M2.length HQ.out
              have HSq2 := step_num q M2.length HQ.out (by omega)
              exact ⟨⟨q + 1, HQ.out, by rw [HSU.out, Bool.false_or], by first | exact HSq.1 | exact HSq2.1, HBQ.out⟩, by first | exact HSq.2 | exact HSq2.2⟩
            · go_wp2
              have HSq := step_num' q M2.length HQ.out
              have HSq2 := step_num q M2.length HQ.out (by omega)
              exact ⟨⟨q + 1, HQ.out, by rw [HSU.out, Bool.true_or], by first | exact HSq.1 | exact HSq2.1, HBQ.out⟩, by first | exact HSq.2 | exact HSq2.2⟩
          · obtain rfl : q = M2.length := by omega
            have hany := anyTo_mem HIN.out
            rw [hany]
            have HBQ := Lib.hid (below_next HB9.out hbr)
            clear hbr hq hlq hany
            go_wp2
            exact ⟨⟨k + 1, HH.out, by first | exact HST.out.1.1 | exact HST.out.2.1, HBQ.out⟩, by first | exact HST.out.1.2 | exact HST.out.2.2⟩
      · obtain rfl : k = L.length := by omega
        have HF := Lib.hid (below_next HB4.out hbr)
        clear hbr hk hlt
        go_wp2_with (go_at_call 15; refine (awake13_any _ (HT.out _ HF.out)).mono ?_; rintro e w9 ⟨rfl, hb9⟩)
        go_ret
        exact ⟨rfl, below_next HF.out hb9⟩
end Go.Proofs.YtlphjjekamhnlaaDoor
