/- The laws of layer 12: ValidTurned, the walk. -/
import Derived.Test.YtlphjjekamhnlaaDoorLaw12c
namespace Go.Proofs.YtlphjjekamhnlaaDoor
open Go.RowKit Go.Sort
attribute [local go_sem] Oper.semAt_some
theorem bits_xor_bd (t : Int) (h0 : 0 ≤ t) (h1 : t ≤ 255) : 0 ≤ Y.xor1 t ∧ Y.xor1 t ≤ 255 := all8 (fun t => 0 ≤ Y.xor1 t ∧ Y.xor1 t ≤ 255) (by decide +kernel) t h0 h1
theorem u8_wf (x : Int) (h0 : 0 ≤ x) (h1 : x ≤ 255) : (Lit.int .u8 x).wf = true := all8 (fun x => (Lit.int .u8 x).wf = true) (by decide +kernel) x h0 h1
theorem i8_wf (x : Nat) (h : x < 64) : (Lit.int .i8 (x : Int)).wf = true := (show ∀ x : Fin 64, (Lit.int .i8 ((x.val : Nat) : Int)).wf = true by decide +kernel) ⟨x, h⟩
theorem flp_xor8 (a : Nat) (h : a < 64) : bits .xor .i8 (a : Int) 56 = ((flp a : Nat) : Int) := (show ∀ a : Fin 64, bits .xor .i8 ((a.val : Nat) : Int) 56 = ((flp a.val : Nat) : Int) by decide +kernel) ⟨a, h⟩
theorem tp2_bd (x : Int) (h0 : 0 ≤ x) (h1 : x ≤ 255) : 0 ≤ Y.tp2 x ∧ Y.tp2 x ≤ 255 := all8 (fun x => 0 ≤ Y.tp2 x ∧ Y.tp2 x ≤ 255) (by decide +kernel) x h0 h1
theorem turnV_ok {c : Nat → Int} (hc : PosOk c) : PosOk (Y.turnV c) := fun i hi => by
  by_cases h0 : i = 0
  · subst h0; exact hc 0 (by decide)
  by_cases hs : i < 65
  · obtain ⟨j, rfl⟩ : ∃ j, i = 1 + j := ⟨i - 1, by omega⟩
    obtain ⟨x0, x1⟩ := pos_bd hc (flp j) (flp_lt j (by omega))
    obtain ⟨y0, y1⟩ := tp2_bd _ x0 x1
    rw [pk_board (by omega), Y.turnV_sq' c j (by omega)]
    exact u8_wf _ y0 y1
  by_cases h65 : i = 65
  · subst h65
    have := (Y.flipB (Y.prom c)).isLt
    show (Lit.int .u64 (U (Y.flipB (Y.prom c)))).wf = true
    unfold U
    simp [Lit.wf, IntKind.min, IntKind.max, IntKind.signed, IntKind.bits]
    omega
  have h88 := fun k => hc k
  rcases (show i = 66 ∨ i = 67 ∨ i = 68 ∨ i = 69 ∨ i = 70 ∨ i = 71 ∨ i = 72 ∨ i = 73 ∨ i = 74 ∨ i = 75 ∨ i = 76 ∨ i = 77 ∨ i = 78 ∨ i = 79 ∨ i = 80 ∨ i = 81 ∨ i = 82 ∨ i = 83 ∨ i = 84 ∨ i = 85 ∨ i = 86 ∨ i = 87 by omega) with rfl | rfl | rfl | rfl | rfl | rfl | rfl | rfl | rfl | rfl | rfl | rfl | rfl | rfl | rfl | rfl | rfl | rfl | rfl | rfl | rfl | rfl
  · exact hc 72 (by decide)
  · exact hc 73 (by decide)
  · exact hc 74 (by decide)
  · exact hc 75 (by decide)
  · exact hc 76 (by decide)
  · exact hc 77 (by decide)
  · exact hc 66 (by decide)
  · exact hc 67 (by decide)
  · exact hc 68 (by decide)
  · exact hc 69 (by decide)
  · exact hc 70 (by decide)
  · exact hc 71 (by decide)
  · obtain ⟨x0, x1⟩ := pos_u8 hc (i := 78) (by decide) rfl
    obtain ⟨y0, y1⟩ := bits_xor_bd _ x0 x1
    exact u8_wf _ y0 y1
  · exact hc 81 (by decide)
  · exact hc 82 (by decide)
  · exact hc 79 (by decide)
  · exact hc 80 (by decide)
  · rw [Y.turnV_83]
    by_cases h : 0 ≤ c 83 ∧ c 83 < 64
    · rw [if_pos h]; exact i8_wf _ (flp_lt _ (by omega))
    · rw [if_neg h]; exact hc 83 (by decide)
  · exact hc 85 (by decide)
  · exact hc 84 (by decide)
  · exact hc 86 (by decide)
  · exact hc 87 (by decide)
theorem upd_upd (c : Nat → Int) (i : Nat) (a b : Int) : upd (upd c i a) i b = upd c i b := by
  funext j
  unfold upd
  split <;> rfl
def Y.No8 (c : Nat → Int) (k : Nat) : Prop := ∀ j, j < k → c (1 + j) ≠ 8
theorem Y.No8.next {c : Nat → Int} {k : Nat} (h : Y.No8 c k) (e : c (1 + k) ≠ 8) : Y.No8 c (k + 1) := fun j hj => by
  rcases Nat.lt_succ_iff_lt_or_eq.1 hj with h1 | rfl
  · exact h j h1
  · exact e
/-- Two positions, the one at g as it was, the other at b. -/
structure Two (w : World) (g b : Nat) (c d : Nat → Int) (W : World) : Prop where
  p : PosAt W g c
  q : PosAt W b d
  below : Below w.heap.size w W
  lt : g < b
  le : w.heap.size ≤ g
section
variable {w W W' : World} {g b : Nat} {c d e : Nat → Int}
theorem Two.next (h : Two w g b c d W) (hb : Below W.heap.size W W') : Two w g b c d W' := ⟨h.p.below hb, h.q.below hb, below_next h.below hb, h.lt, h.le⟩
theorem Two.put (h : Two w g b c d W) (hP : Put b W W') (hq : PosAt W' b e) : Two w g b c e W' := by
  have := h.lt
  have := h.le
  exact ⟨hP.pos h.p (by omega), hq, hP.below h.below (by omega), h.lt, h.le⟩
end

set_option maxRecDepth 100000 in
set_option maxHeartbeats 8000000 in
theorem validTurned_h (c : Nat → Int) (w : World) (hT : Tb w) (h7 : c 0 = 7) :
    Calls Tryd.prog 8 #[.agg (posC c)] w fun e w' => e = .returned (.bool true) ∧ Below w.heap.size w w' := by
  have hp := PosAt.new w c
  have hb0 : Below w.heap.size w (w.alloc (.cells (posC c) 31)) := (Below.refl _ _).alloc (Nat.le_refl _) _
  have HT := Lib.hid (tb_below hT hb0)
  have c0 := hp.cellK 0 (by decide) .u8 rfl
  rw [h7] at c0
  clear hT h7
  go_enter Tryd.func8, Tryd.ntmps8
  go_wp2_with (go_at_call 20; refine (awake12_any _ HT.out).mono ?_; rintro e w2 ⟨rfl, hb2⟩)
  go_ret
  exact ⟨rfl, below_next hb0 hb2⟩
set_option maxRecDepth 100000 in
set_option maxHeartbeats 16000000 in
theorem validTurned_n (c : Nat → Int) (w : World) (hc : PosOk c) (hT : Tb w) (h7 : c 0 ≠ 7) :
    Calls Tryd.prog 8 #[.agg (posC c)] w fun e w' => e = .returned (.bool true) ∧ Below w.heap.size w w' := by
  have hp := PosAt.new w c
  have hb0 : Below w.heap.size w (w.alloc (.cells (posC c) 31)) := (Below.refl _ _).alloc (Nat.le_refl _) _
  have HT := Lib.hid (fun W (hb : Below w.heap.size w W) => tb_below hT hb)
  have c0 := hp.cellK 0 (by decide) .u8 rfl
  have e7 : (c 0 == 7) = false := by simpa using h7
  have Hc := Lib.hid (pos_bd hc)
  have HU := Lib.hid (prom_U hc)
  have HP1 : Hid (∀ W, Tb W → Calls Tryd.prog 19 #[.agg (posC c)] W fun e w' => e = .returned (.int .i64 (Y.first c)) ∧ Below W.heap.size W w') := Lib.hid (fun W h => vfirst_any c W hc h)
  have HP2 : Hid ((∀ j, j < 64 → c (1 + j) ≠ 8) → ∀ W, Tb W → Calls Tryd.prog 19 #[.agg (posC (Y.turnV c))] W fun e w' => e = .returned (.int .i64 (Y.first c)) ∧ Below W.heap.size W w') := Lib.hid (fun h8 W h => by rw [← Y.first_turn c hc h7 h8]; exact vfirst_any _ W (turnV_ok hc) h)
  have H8 := Lib.hid (Y.first_8 c)
  obtain ⟨i0, i1⟩ := pos_i8z hc (i := 83) (by decide) rfl
  clear hT hc h7
  obtain ⟨W0, hW0⟩ : ∃ W0, w.alloc (.cells (posC c) 31) = W0 := ⟨_, rfl⟩
  have hs0 : W0.heap.size = w.heap.size + 1 := by rw [← hW0]; simp
  rw [hW0] at hp hb0 c0
  have hza := heap_alloc_new W0 (.cells Tryd.zeroCells31 31)
  rw [hs0] at hza
  have HP0 := Lib.hid (And.intro hp hb0)
  clear hp hb0
  go_enter Tryd.func8, Tryd.ntmps8
  go_wp2_with (first
    | ((with_reducible refine wp_load_box_g rfl _ rfl ?_); refine ⟨_, _, rfl, HP0.out.1, ?_⟩)
    | ((with_reducible refine wp_store_box rfl _ _ rfl ?_); refine ⟨w.heap.size + 1, c, rfl, rfl, ⟨_, hza, (by kernel_rfl)⟩, ?_⟩; intro W1 hP hq; have H1 : Hid (Two w w.heap.size (w.heap.size + 1) c c W1) := Lib.hid ⟨hP.pos (HP0.out.1.alloc _) (by omega), hq, hP.below (HP0.out.2.alloc HP0.out.2.size _) (by omega), by omega, Nat.le_refl _⟩; clear hP hq))
  obtain ⟨b, hb⟩ : ∃ b, w.heap.size + 1 = b := ⟨_, rfl⟩
  rw [hb] at H1 ⊢
  clear hb hs0 HP0 c0 hW0 hza
  go_loopw [4] (fun i wr => ∃ k : Nat, k ≤ 64 ∧ i = .int .i64 (k : Int) ∧ Two w w.heap.size b c (Y.turnB c k) wr) (fun i _ => 64 - (intOf i).toNat)
  case atStart => exact ⟨0, Nat.zero_le _, rfl, H1.out⟩
  case round =>
    obtain ⟨k, hk, rfl, hM⟩ := hrel
    have HM := Lib.hid hM
    clear hM H1
    by_cases hlt : k < 64
    · have hcl := HM.out.p.bd hlt
      obtain ⟨x0, x1⟩ := Hc.out k hlt
      have hfk := flp_lt k hlt
      have exk := flp_xor k hlt
      have HS := Lib.hid (show Y.turnB c (k + 1) = upd (Y.turnB c k) (1 + flp k) (Y.tp2 (c (1 + k))) from rfl)
      generalize c (1 + k) = x at *
      have HX := Lib.hid (show Y.tp2 x = if 0 < x ∧ x < 16 then (x + 8) % 16 else x from rfl)
      by_cases h1 : 0 < x
      · have d1 : decide (0 < x) = true := decide_eq_true h1
        by_cases h2 : x < 16
        · have d2 : decide (x < 16) = true := decide_eq_true h2
          have E := Lib.hid (HX.out.trans (if_pos ⟨h1, h2⟩))
          clear HX
          go_wp2_with ((with_reducible refine wp_store_cell rfl _ _ _ rfl ?_); refine ⟨_, _, _, _, _, rfl, rfl, HM.out.q, (by omega), pk_board hfk, Tryd.size_u8, ?_⟩; intro V2 hP hq; have HM2 := Lib.hid (HM.out.put hP hq); clear hP hq)
          go_roundw
          case rel => exact ⟨k + 1, by omega, by go_num, by rw [HS.out, E.out]; exact HM2.out⟩
          case measure => simp [intOf]; omega
        · have d2 : decide (x < 16) = false := decide_eq_false h2
          have E := Lib.hid (HX.out.trans (if_neg (fun h => h2 h.2)))
          clear HX
          go_wp2_with ((with_reducible refine wp_store_cell rfl _ _ _ rfl ?_); refine ⟨_, _, _, _, _, rfl, rfl, HM.out.q, (by omega), pk_board hfk, Tryd.size_u8, ?_⟩; intro V2 hP hq; have HM2 := Lib.hid (HM.out.put hP hq); clear hP hq)
          go_roundw
          case rel => exact ⟨k + 1, by omega, by go_num, by rw [HS.out, E.out]; exact HM2.out⟩
          case measure => simp [intOf]; omega
      · have d1 : decide (0 < x) = false := decide_eq_false h1
        have E := Lib.hid (HX.out.trans (if_neg (fun h => h1 h.1)))
        clear HX
        go_wp2_with ((with_reducible refine wp_store_cell rfl _ _ _ rfl ?_); refine ⟨_, _, _, _, _, rfl, rfl, HM.out.q, (by omega), pk_board hfk, Tryd.size_u8, ?_⟩; intro V2 hP hq; have HM2 := Lib.hid (HM.out.put hP hq); clear hP hq)
        go_roundw
        case rel => exact ⟨k + 1, by omega, by go_num, by rw [HS.out, E.out]; exact HM2.out⟩
        case measure => simp [intOf]; omega
    · obtain rfl : k = 64 := by omega
      have c78 := HM.out.p.cellK 78 (by decide) .u8 rfl
      have hx1 : bits .xor .u8 (c 78) 1 = Y.xor1 (c 78) := rfl
      have HX1 := Lib.hid hx1
      clear hx1 hlt hk
      go_upto_region 15 with (first
        | ((with_reducible refine wp_store_cell rfl _ _ _ rfl ?_); refine ⟨b, 78, _, _, _, rfl, rfl, HM.out.q, (by decide), rfl, Tryd.size_u8, ?_⟩; intro W2 hP hq; have HM2 : Hid (Two w w.heap.size b c (upd (Y.turnB c 64) 78 (Y.xor1 (c 78))) W2) := Lib.hid (HM.out.put hP hq); clear hP hq)
        | ((with_reducible refine wp_load_midG rfl 27 _ rfl Tryd.underlying27 rfl ?_); refine ⟨w.heap.size, 81, _, rfl, range2 HM2.out.p 81 (by omega), Tryd.size_i2, ?_⟩)
        | ((with_reducible refine wp_load_midG rfl 27 _ rfl Tryd.underlying27 rfl ?_); refine ⟨w.heap.size, 79, _, rfl, range2 HM2.out.p 79 (by omega), Tryd.size_i2, ?_⟩)
        | ((with_reducible refine wpl_build rfl 28 _ rfl ?_); refine ⟨_, _, rfl, Tryd.built_i4 _ _ _ _, ?_⟩)
        | ((with_reducible refine wp_store_cells rfl 28 _ _ rfl ?_); refine ⟨b, 79, [c 81, c 82, c 79, c 80], _, rfl, rfl, HM2.out.q, (Nat.le_of_ble_eq_true rfl), Tryd.size_i4, ?_⟩; intro U1 hP hq; have HM3 := Lib.hid (HM2.out.put hP hq); have c85 := HM3.out.p.cellK 85 (by decide) .u8 rfl; have c84 := HM3.out.p.cellK 84 (by decide) .u8 rfl; clear hP hq)
        | ((with_reducible refine wpl_build rfl 29 _ rfl ?_); refine ⟨_, _, rfl, Tryd.built_u2 _ _, ?_⟩)
        | ((with_reducible refine wp_store_cells rfl 29 _ _ rfl ?_); refine ⟨b, 84, [c 85, c 84], _, rfl, rfl, HM3.out.q, (Nat.le_of_ble_eq_true rfl), Tryd.size_u2, ?_⟩; intro U1 hP hq; have HM4 := Lib.hid (HM3.out.put hP hq); clear c85 c84; clear hP hq)
        | ((with_reducible refine wp_load_midG rfl 24 _ rfl Tryd.underlying24 rfl ?_); refine ⟨w.heap.size, 72, _, rfl, range6 HM4.out.p 72 (by omega), Tryd.size_u6, ?_⟩)
        | ((with_reducible refine wp_load_midG rfl 24 _ rfl Tryd.underlying24 rfl ?_); refine ⟨w.heap.size, 66, _, rfl, range6 HM4.out.p 66 (by omega), Tryd.size_u6, ?_⟩)
        | ((with_reducible refine wpl_build rfl 25 _ rfl ?_); refine ⟨_, _, rfl, Tryd.built_p12 _ _ _ _ _ _ _ _ _ _ _ _, ?_⟩)
        | ((with_reducible refine wp_store_cells rfl 25 _ _ rfl ?_); refine ⟨b, 66, [c 72, c 73, c 74, c 75, c 76, c 77, c 66, c 67, c 68, c 69, c 70, c 71], _, rfl, rfl, HM4.out.q, (Nat.le_of_ble_eq_true rfl), Tryd.size_p12, ?_⟩; intro U1 hP hq; have HM5 : Hid (Two w w.heap.size b c (Y.turn1 c) U1) := Lib.hid (HM4.out.put hP hq); clear hP hq))
      have c83 := HM5.out.p.cellK 83 (by decide) .i8 rfl
      have HT2 := Lib.hid (show Y.turn2 c = if 0 ≤ c 83 ∧ c 83 < 64 then upd (Y.turn1 c) 83 ((flp (c 83).toNat : Nat) : Int) else Y.turn1 c from rfl)
      clear HM HM2 HM3 HM4 c78 HX1
      by_cases h0 : 0 ≤ c 83
      · have d0 : decide (0 ≤ c 83) = true := decide_eq_true h0
        by_cases h1 : c 83 < 64
        · obtain ⟨sq, hsq⟩ : ∃ sq : Nat, c 83 = (sq : Int) := ⟨(c 83).toNat, by omega⟩
          have E2 := Lib.hid (show Y.turn2 c = upd (Y.turn1 c) 83 ((flp sq : Nat) : Int) by rw [HT2.out, if_pos ⟨h0, h1⟩, hsq, Int.toNat_natCast])
          have hs64 : sq < 64 := by omega
          have ex8 := flp_xor8 sq hs64
          have d1 : decide (c 83 < 64) = true := decide_eq_true h1
          rw [hsq] at c83 d0 d1
          clear h0 h1 hsq
          go_upto_region 17 with ((with_reducible refine wp_store_cell rfl _ _ _ rfl ?_); refine ⟨b, 83, _, _, _, rfl, rfl, HM5.out.q, (by decide), rfl, Tryd.size_i8V, ?_⟩; intro U6 hP hq; have HM6' := Lib.hid (HM5.out.put hP hq); clear hP hq)
          have HM6 : Hid (Two w w.heap.size b c (Y.turn2 c) U6) := Lib.hid (by rw [E2.out]; exact HM6'.out)
          clear HM6' c83 d0 d1 ex8
          clear HM5 HT2
          go_wp2_with ((with_reducible refine wp_store_cell rfl _ _ _ rfl ?_); refine ⟨b, 65, _, _, _, rfl, rfl, HM6.out.q, (by decide), rfl, Tryd.size_u64T, ?_⟩; intro U7 hP hq; have HM7 : Hid (Two w w.heap.size b c (Y.turn3 c 0) U7) := Lib.hid (HM6.out.put hP hq); clear hP hq)
          clear HM6
          go_loopw [6] (fun i wr => ∃ r : Nat, r ≤ 8 ∧ i = .int .u64 (r : Int) ∧ Two w w.heap.size b c (Y.turn3 c r) wr) (fun i _ => 8 - (intOf i).toNat)
          case atStart => exact ⟨0, Nat.zero_le _, rfl, HM7.out⟩
          case round =>
            obtain ⟨r, hr, rfl, hM⟩ := hrel
            have HM := Lib.hid hM
            clear hM HM7
            have p65 := HM.out.p.cellK 65 (by decide) .u64 rfl
            have q65 := HM.out.q.cellK 65 (by decide) .u64 rfl
            rw [HU.out] at p65
            rw [show Y.turn3 c r 65 = U (Y.flipTo (Y.prom c) r) from upd_same _ _ _] at q65
            have HS := Lib.hid (show Y.flipTo (Y.prom c) (r + 1) = bOr (Y.flipTo (Y.prom c) r) (bShl (bAnd (bShr (Y.prom c) (8 * r)) 255#64) (56 - 8 * r)) from rfl)
            have HS2 := Lib.hid (fun v => show upd (Y.turn3 c r) 65 v = upd (Y.turn2 c) 65 v from upd_upd _ _ _ _)
            have HS3 := Lib.hid (show Y.turn3 c (r + 1) = upd (Y.turn2 c) 65 (U (Y.flipTo (Y.prom c) (r + 1))) from rfl)
            generalize Y.flipTo (Y.prom c) (r + 1) = F1 at HS HS3
            generalize Y.flipTo (Y.prom c) r = F at HS q65
            generalize Y.prom c = m at HS p65
            have h255 := and255 (bShr m (8 * r))
            rcases (show r = 0 ∨ r = 1 ∨ r = 2 ∨ r = 3 ∨ r = 4 ∨ r = 5 ∨ r = 6 ∨ r = 7 ∨ r = 8 by omega) with rfl | rfl | rfl | rfl | rfl | rfl | rfl | rfl | rfl
            · replace h255 : bits .and .u64 (U (bShr m 0)) 255 = U (bAnd (bShr m 0) 255#64) := h255
              replace HS : Hid (F1 = bOr F (bShl (bAnd (bShr m 0) 255#64) 56)) := Lib.hid HS.out
              go_wp2_with ((with_reducible refine wp_store_cell rfl _ _ _ rfl ?_); refine ⟨b, 65, _, _, _, rfl, rfl, HM.out.q, (by decide), rfl, Tryd.size_u64T, ?_⟩; intro U8 hP hq; have HM8 := Lib.hid (HM.out.put hP hq); clear hP hq)
              go_roundw
              case rel => exact ⟨1, by omega, rfl, by rw [HS3.out, HS.out, ← HS2.out]; exact HM8.out⟩
              case measure => simp [intOf]
            · replace h255 : bits .and .u64 (U (bShr m 8)) 255 = U (bAnd (bShr m 8) 255#64) := h255
              replace HS : Hid (F1 = bOr F (bShl (bAnd (bShr m 8) 255#64) 48)) := Lib.hid HS.out
              go_wp2_with ((with_reducible refine wp_store_cell rfl _ _ _ rfl ?_); refine ⟨b, 65, _, _, _, rfl, rfl, HM.out.q, (by decide), rfl, Tryd.size_u64T, ?_⟩; intro U8 hP hq; have HM8 := Lib.hid (HM.out.put hP hq); clear hP hq)
              go_roundw
              case rel => exact ⟨2, by omega, rfl, by rw [HS3.out, HS.out, ← HS2.out]; exact HM8.out⟩
              case measure => simp [intOf]
            · replace h255 : bits .and .u64 (U (bShr m 16)) 255 = U (bAnd (bShr m 16) 255#64) := h255
              replace HS : Hid (F1 = bOr F (bShl (bAnd (bShr m 16) 255#64) 40)) := Lib.hid HS.out
              go_wp2_with ((with_reducible refine wp_store_cell rfl _ _ _ rfl ?_); refine ⟨b, 65, _, _, _, rfl, rfl, HM.out.q, (by decide), rfl, Tryd.size_u64T, ?_⟩; intro U8 hP hq; have HM8 := Lib.hid (HM.out.put hP hq); clear hP hq)
              go_roundw
              case rel => exact ⟨3, by omega, rfl, by rw [HS3.out, HS.out, ← HS2.out]; exact HM8.out⟩
              case measure => simp [intOf]
            · replace h255 : bits .and .u64 (U (bShr m 24)) 255 = U (bAnd (bShr m 24) 255#64) := h255
              replace HS : Hid (F1 = bOr F (bShl (bAnd (bShr m 24) 255#64) 32)) := Lib.hid HS.out
              go_wp2_with ((with_reducible refine wp_store_cell rfl _ _ _ rfl ?_); refine ⟨b, 65, _, _, _, rfl, rfl, HM.out.q, (by decide), rfl, Tryd.size_u64T, ?_⟩; intro U8 hP hq; have HM8 := Lib.hid (HM.out.put hP hq); clear hP hq)
              go_roundw
              case rel => exact ⟨4, by omega, rfl, by rw [HS3.out, HS.out, ← HS2.out]; exact HM8.out⟩
              case measure => simp [intOf]
            · replace h255 : bits .and .u64 (U (bShr m 32)) 255 = U (bAnd (bShr m 32) 255#64) := h255
              replace HS : Hid (F1 = bOr F (bShl (bAnd (bShr m 32) 255#64) 24)) := Lib.hid HS.out
              go_wp2_with ((with_reducible refine wp_store_cell rfl _ _ _ rfl ?_); refine ⟨b, 65, _, _, _, rfl, rfl, HM.out.q, (by decide), rfl, Tryd.size_u64T, ?_⟩; intro U8 hP hq; have HM8 := Lib.hid (HM.out.put hP hq); clear hP hq)
              go_roundw
              case rel => exact ⟨5, by omega, rfl, by rw [HS3.out, HS.out, ← HS2.out]; exact HM8.out⟩
              case measure => simp [intOf]
            · replace h255 : bits .and .u64 (U (bShr m 40)) 255 = U (bAnd (bShr m 40) 255#64) := h255
              replace HS : Hid (F1 = bOr F (bShl (bAnd (bShr m 40) 255#64) 16)) := Lib.hid HS.out
              go_wp2_with ((with_reducible refine wp_store_cell rfl _ _ _ rfl ?_); refine ⟨b, 65, _, _, _, rfl, rfl, HM.out.q, (by decide), rfl, Tryd.size_u64T, ?_⟩; intro U8 hP hq; have HM8 := Lib.hid (HM.out.put hP hq); clear hP hq)
              go_roundw
              case rel => exact ⟨6, by omega, rfl, by rw [HS3.out, HS.out, ← HS2.out]; exact HM8.out⟩
              case measure => simp [intOf]
            · replace h255 : bits .and .u64 (U (bShr m 48)) 255 = U (bAnd (bShr m 48) 255#64) := h255
              replace HS : Hid (F1 = bOr F (bShl (bAnd (bShr m 48) 255#64) 8)) := Lib.hid HS.out
              go_wp2_with ((with_reducible refine wp_store_cell rfl _ _ _ rfl ?_); refine ⟨b, 65, _, _, _, rfl, rfl, HM.out.q, (by decide), rfl, Tryd.size_u64T, ?_⟩; intro U8 hP hq; have HM8 := Lib.hid (HM.out.put hP hq); clear hP hq)
              go_roundw
              case rel => exact ⟨7, by omega, rfl, by rw [HS3.out, HS.out, ← HS2.out]; exact HM8.out⟩
              case measure => simp [intOf]
            · replace h255 : bits .and .u64 (U (bShr m 56)) 255 = U (bAnd (bShr m 56) 255#64) := h255
              replace HS : Hid (F1 = bOr F (bShl (bAnd (bShr m 56) 255#64) 0)) := Lib.hid HS.out
              go_wp2_with ((with_reducible refine wp_store_cell rfl _ _ _ rfl ?_); refine ⟨b, 65, _, _, _, rfl, rfl, HM.out.q, (by decide), rfl, Tryd.size_u64T, ?_⟩; intro U8 hP hq; have HM8 := Lib.hid (HM.out.put hP hq); clear hP hq)
              go_roundw
              case rel => exact ⟨8, by omega, rfl, by rw [HS3.out, HS.out, ← HS2.out]; exact HM8.out⟩
              case measure => simp [intOf]
            · clear p65 q65 HS HS2 HS3 h255
              go_wp2
              go_loopw [7] (fun i wr => ∃ k : Nat, k ≤ 64 ∧ i = .int .i64 (k : Int) ∧ Y.No8 c k ∧ Two w w.heap.size b c (Y.turn3 c 8) wr) (fun i _ => 64 - (intOf i).toNat)
              case atStart => exact ⟨0, Nat.zero_le _, rfl, (fun j hj => by omega), HM.out⟩
              case round =>
                obtain ⟨k, hk, rfl, hN, hM⟩ := hrel
                have HN := Lib.hid hN
                have HMk := Lib.hid hM
                clear hN hM HM
                by_cases hlt : k < 64
                · have hcl := HMk.out.p.bd hlt
                  have HNx := Lib.hid (fun h => Y.No8.next (c := c) (k := k) HN.out h)
                  have H8k := Lib.hid (fun h => H8.out k hlt h)
                  generalize c (1 + k) = x at *
                  by_cases hx : x = 8
                  · have E := Lib.hid (H8k.out hx)
                    rw [E.out] at HP1
                    subst hx
                    clear HNx H8k
                    go_wp2_with (first
                      | ((with_reducible refine wp_load_box_g rfl _ rfl ?_); refine ⟨_, _, rfl, HMk.out.p, ?_⟩)
                      | (go_at_call 19; refine (HP1.out _ (HT.out _ HMk.out.below)).mono ?_; rintro e w5 ⟨rfl, hb5⟩; have HB5 := Lib.hid (below_next HMk.out.below hb5); clear hb5)
                      | (go_at_call 20; refine (awake12_any _ (HT.out _ HB5.out)).mono ?_; rintro e w6 ⟨rfl, hb6⟩; have HB6 := Lib.hid (below_next HB5.out hb6); clear hb6))
                    go_ret
                    exact ⟨rfl, HB6.out⟩
                  · have e8 : (x == 8) = false := by simpa using hx
                    have E := Lib.hid (HNx.out hx)
                    clear HNx H8k hx
                    go_wp2
                    go_roundw
                    case rel => exact ⟨k + 1, by omega, by go_num, E.out, HMk.out⟩
                    case measure => simp [intOf]; omega
                · obtain rfl : k = 64 := by omega
                  have HP3 := Lib.hid (HP2.out HN.out)
                  have hpp := HMk.out.p
                  have hqq : PosAt wr b (Y.turnV c) := HMk.out.q.congr (fun i hi => Y.turn3_eq c i hi)
                  have HTw := Lib.hid (HT.out _ HMk.out.below)
                  clear HN HP2 hlt hk
                  generalize Y.first c = fc at HP1 HP3
                  go_wp2
                  refine region_below (by kernel_rfl) (by kernel_rfl) ?_
                  try simp only [Act.put]
                  repeat (first
                    | (go_big_quiet_want; refine quiet_load_box _ rfl ⟨_, c, rfl, hpp, ?_⟩; simp only [Act.put, List.setIfInBounds_toArray, List.set_cons_succ, List.set_cons_zero]; go_big_quiet_on)
                    | (go_big_quiet_want; refine quiet_load_box _ rfl ⟨_, Y.turnV c, rfl, hqq, ?_⟩; simp only [Act.put, List.setIfInBounds_toArray, List.set_cons_succ, List.set_cons_zero]; go_big_quiet_on)
                    | go_big_quiet_step (first
                      | (go_at_call 19; (with_reducible exact quiet_below (HP1.out _ (tb_grow HTw.out))))
                      | (go_at_call 19; (with_reducible exact quiet_below (HP3.out _ (tb_grow HTw.out))))
                      | (go_at_call 20; exact quiet_below (awake12_any _ (tb_grow HTw.out)))))
                  refine wpQuiet_nil ?_
                  intro w3 hb3
                  have hbr := below_next HMk.out.below hb3
                  clear hb3 hpp hqq
                  go_wp2
                  go_ret
                  exact ⟨rfl, hbr⟩
        · have d1 : decide (c 83 < 64) = false := decide_eq_false h1
          have HM6 := Lib.hid (show Two w w.heap.size b c (Y.turn2 c) U1 by rw [HT2.out, if_neg (fun h => h1 h.2)]; exact HM5.out)
          clear h0 h1
          go_upto_region 17 with fail
          clear c83 d0 d1
          clear HM5 HT2
          go_wp2_with ((with_reducible refine wp_store_cell rfl _ _ _ rfl ?_); refine ⟨b, 65, _, _, _, rfl, rfl, HM6.out.q, (by decide), rfl, Tryd.size_u64T, ?_⟩; intro U7 hP hq; have HM7 : Hid (Two w w.heap.size b c (Y.turn3 c 0) U7) := Lib.hid (HM6.out.put hP hq); clear hP hq)
          clear HM6
          go_loopw [6] (fun i wr => ∃ r : Nat, r ≤ 8 ∧ i = .int .u64 (r : Int) ∧ Two w w.heap.size b c (Y.turn3 c r) wr) (fun i _ => 8 - (intOf i).toNat)
          case atStart => exact ⟨0, Nat.zero_le _, rfl, HM7.out⟩
          case round =>
            obtain ⟨r, hr, rfl, hM⟩ := hrel
            have HM := Lib.hid hM
            clear hM HM7
            have p65 := HM.out.p.cellK 65 (by decide) .u64 rfl
            have q65 := HM.out.q.cellK 65 (by decide) .u64 rfl
            rw [HU.out] at p65
            rw [show Y.turn3 c r 65 = U (Y.flipTo (Y.prom c) r) from upd_same _ _ _] at q65
            have HS := Lib.hid (show Y.flipTo (Y.prom c) (r + 1) = bOr (Y.flipTo (Y.prom c) r) (bShl (bAnd (bShr (Y.prom c) (8 * r)) 255#64) (56 - 8 * r)) from rfl)
            have HS2 := Lib.hid (fun v => show upd (Y.turn3 c r) 65 v = upd (Y.turn2 c) 65 v from upd_upd _ _ _ _)
            have HS3 := Lib.hid (show Y.turn3 c (r + 1) = upd (Y.turn2 c) 65 (U (Y.flipTo (Y.prom c) (r + 1))) from rfl)
            generalize Y.flipTo (Y.prom c) (r + 1) = F1 at HS HS3
            generalize Y.flipTo (Y.prom c) r = F at HS q65
            generalize Y.prom c = m at HS p65
            have h255 := and255 (bShr m (8 * r))
            rcases (show r = 0 ∨ r = 1 ∨ r = 2 ∨ r = 3 ∨ r = 4 ∨ r = 5 ∨ r = 6 ∨ r = 7 ∨ r = 8 by omega) with rfl | rfl | rfl | rfl | rfl | rfl | rfl | rfl | rfl
            · replace h255 : bits .and .u64 (U (bShr m 0)) 255 = U (bAnd (bShr m 0) 255#64) := h255
              replace HS : Hid (F1 = bOr F (bShl (bAnd (bShr m 0) 255#64) 56)) := Lib.hid HS.out
              go_wp2_with ((with_reducible refine wp_store_cell rfl _ _ _ rfl ?_); refine ⟨b, 65, _, _, _, rfl, rfl, HM.out.q, (by decide), rfl, Tryd.size_u64T, ?_⟩; intro U8 hP hq; have HM8 := Lib.hid (HM.out.put hP hq); clear hP hq)
              go_roundw
              case rel => exact ⟨1, by omega, rfl, by rw [HS3.out, HS.out, ← HS2.out]; exact HM8.out⟩
              case measure => simp [intOf]
            · replace h255 : bits .and .u64 (U (bShr m 8)) 255 = U (bAnd (bShr m 8) 255#64) := h255
              replace HS : Hid (F1 = bOr F (bShl (bAnd (bShr m 8) 255#64) 48)) := Lib.hid HS.out
              go_wp2_with ((with_reducible refine wp_store_cell rfl _ _ _ rfl ?_); refine ⟨b, 65, _, _, _, rfl, rfl, HM.out.q, (by decide), rfl, Tryd.size_u64T, ?_⟩; intro U8 hP hq; have HM8 := Lib.hid (HM.out.put hP hq); clear hP hq)
              go_roundw
              case rel => exact ⟨2, by omega, rfl, by rw [HS3.out, HS.out, ← HS2.out]; exact HM8.out⟩
              case measure => simp [intOf]
            · replace h255 : bits .and .u64 (U (bShr m 16)) 255 = U (bAnd (bShr m 16) 255#64) := h255
              replace HS : Hid (F1 = bOr F (bShl (bAnd (bShr m 16) 255#64) 40)) := Lib.hid HS.out
              go_wp2_with ((with_reducible refine wp_store_cell rfl _ _ _ rfl ?_); refine ⟨b, 65, _, _, _, rfl, rfl, HM.out.q, (by decide), rfl, Tryd.size_u64T, ?_⟩; intro U8 hP hq; have HM8 := Lib.hid (HM.out.put hP hq); clear hP hq)
              go_roundw
              case rel => exact ⟨3, by omega, rfl, by rw [HS3.out, HS.out, ← HS2.out]; exact HM8.out⟩
              case measure => simp [intOf]
            · replace h255 : bits .and .u64 (U (bShr m 24)) 255 = U (bAnd (bShr m 24) 255#64) := h255
              replace HS : Hid (F1 = bOr F (bShl (bAnd (bShr m 24) 255#64) 32)) := Lib.hid HS.out
              go_wp2_with ((with_reducible refine wp_store_cell rfl _ _ _ rfl ?_); refine ⟨b, 65, _, _, _, rfl, rfl, HM.out.q, (by decide), rfl, Tryd.size_u64T, ?_⟩; intro U8 hP hq; have HM8 := Lib.hid (HM.out.put hP hq); clear hP hq)
              go_roundw
              case rel => exact ⟨4, by omega, rfl, by rw [HS3.out, HS.out, ← HS2.out]; exact HM8.out⟩
              case measure => simp [intOf]
            · replace h255 : bits .and .u64 (U (bShr m 32)) 255 = U (bAnd (bShr m 32) 255#64) := h255
              replace HS : Hid (F1 = bOr F (bShl (bAnd (bShr m 32) 255#64) 24)) := Lib.hid HS.out
              go_wp2_with ((with_reducible refine wp_store_cell rfl _ _ _ rfl ?_); refine ⟨b, 65, _, _, _, rfl, rfl, HM.out.q, (by decide), rfl, Tryd.size_u64T, ?_⟩; intro U8 hP hq; have HM8 := Lib.hid (HM.out.put hP hq); clear hP hq)
              go_roundw
              case rel => exact ⟨5, by omega, rfl, by rw [HS3.out, HS.out, ← HS2.out]; exact HM8.out⟩
              case measure => simp [intOf]
            · replace h255 : bits .and .u64 (U (bShr m 40)) 255 = U (bAnd (bShr m 40) 255#64) := h255
              replace HS : Hid (F1 = bOr F (bShl (bAnd (bShr m 40) 255#64) 16)) := Lib.hid HS.out
              go_wp2_with ((with_reducible refine wp_store_cell rfl _ _ _ rfl ?_); refine ⟨b, 65, _, _, _, rfl, rfl, HM.out.q, (by decide), rfl, Tryd.size_u64T, ?_⟩; intro U8 hP hq; have HM8 := Lib.hid (HM.out.put hP hq); clear hP hq)
              go_roundw
              case rel => exact ⟨6, by omega, rfl, by rw [HS3.out, HS.out, ← HS2.out]; exact HM8.out⟩
              case measure => simp [intOf]
            · replace h255 : bits .and .u64 (U (bShr m 48)) 255 = U (bAnd (bShr m 48) 255#64) := h255
              replace HS : Hid (F1 = bOr F (bShl (bAnd (bShr m 48) 255#64) 8)) := Lib.hid HS.out
              go_wp2_with ((with_reducible refine wp_store_cell rfl _ _ _ rfl ?_); refine ⟨b, 65, _, _, _, rfl, rfl, HM.out.q, (by decide), rfl, Tryd.size_u64T, ?_⟩; intro U8 hP hq; have HM8 := Lib.hid (HM.out.put hP hq); clear hP hq)
              go_roundw
              case rel => exact ⟨7, by omega, rfl, by rw [HS3.out, HS.out, ← HS2.out]; exact HM8.out⟩
              case measure => simp [intOf]
            · replace h255 : bits .and .u64 (U (bShr m 56)) 255 = U (bAnd (bShr m 56) 255#64) := h255
              replace HS : Hid (F1 = bOr F (bShl (bAnd (bShr m 56) 255#64) 0)) := Lib.hid HS.out
              go_wp2_with ((with_reducible refine wp_store_cell rfl _ _ _ rfl ?_); refine ⟨b, 65, _, _, _, rfl, rfl, HM.out.q, (by decide), rfl, Tryd.size_u64T, ?_⟩; intro U8 hP hq; have HM8 := Lib.hid (HM.out.put hP hq); clear hP hq)
              go_roundw
              case rel => exact ⟨8, by omega, rfl, by rw [HS3.out, HS.out, ← HS2.out]; exact HM8.out⟩
              case measure => simp [intOf]
            · clear p65 q65 HS HS2 HS3 h255
              go_wp2
              go_loopw [7] (fun i wr => ∃ k : Nat, k ≤ 64 ∧ i = .int .i64 (k : Int) ∧ Y.No8 c k ∧ Two w w.heap.size b c (Y.turn3 c 8) wr) (fun i _ => 64 - (intOf i).toNat)
              case atStart => exact ⟨0, Nat.zero_le _, rfl, (fun j hj => by omega), HM.out⟩
              case round =>
                obtain ⟨k, hk, rfl, hN, hM⟩ := hrel
                have HN := Lib.hid hN
                have HMk := Lib.hid hM
                clear hN hM HM
                by_cases hlt : k < 64
                · have hcl := HMk.out.p.bd hlt
                  have HNx := Lib.hid (fun h => Y.No8.next (c := c) (k := k) HN.out h)
                  have H8k := Lib.hid (fun h => H8.out k hlt h)
                  generalize c (1 + k) = x at *
                  by_cases hx : x = 8
                  · have E := Lib.hid (H8k.out hx)
                    rw [E.out] at HP1
                    subst hx
                    clear HNx H8k
                    go_wp2_with (first
                      | ((with_reducible refine wp_load_box_g rfl _ rfl ?_); refine ⟨_, _, rfl, HMk.out.p, ?_⟩)
                      | (go_at_call 19; refine (HP1.out _ (HT.out _ HMk.out.below)).mono ?_; rintro e w5 ⟨rfl, hb5⟩; have HB5 := Lib.hid (below_next HMk.out.below hb5); clear hb5)
                      | (go_at_call 20; refine (awake12_any _ (HT.out _ HB5.out)).mono ?_; rintro e w6 ⟨rfl, hb6⟩; have HB6 := Lib.hid (below_next HB5.out hb6); clear hb6))
                    go_ret
                    exact ⟨rfl, HB6.out⟩
                  · have e8 : (x == 8) = false := by simpa using hx
                    have E := Lib.hid (HNx.out hx)
                    clear HNx H8k hx
                    go_wp2
                    go_roundw
                    case rel => exact ⟨k + 1, by omega, by go_num, E.out, HMk.out⟩
                    case measure => simp [intOf]; omega
                · obtain rfl : k = 64 := by omega
                  have HP3 := Lib.hid (HP2.out HN.out)
                  have hpp := HMk.out.p
                  have hqq : PosAt wr b (Y.turnV c) := HMk.out.q.congr (fun i hi => Y.turn3_eq c i hi)
                  have HTw := Lib.hid (HT.out _ HMk.out.below)
                  clear HN HP2 hlt hk
                  generalize Y.first c = fc at HP1 HP3
                  go_wp2
                  refine region_below (by kernel_rfl) (by kernel_rfl) ?_
                  try simp only [Act.put]
                  repeat (first
                    | (go_big_quiet_want; refine quiet_load_box _ rfl ⟨_, c, rfl, hpp, ?_⟩; simp only [Act.put, List.setIfInBounds_toArray, List.set_cons_succ, List.set_cons_zero]; go_big_quiet_on)
                    | (go_big_quiet_want; refine quiet_load_box _ rfl ⟨_, Y.turnV c, rfl, hqq, ?_⟩; simp only [Act.put, List.setIfInBounds_toArray, List.set_cons_succ, List.set_cons_zero]; go_big_quiet_on)
                    | go_big_quiet_step (first
                      | (go_at_call 19; (with_reducible exact quiet_below (HP1.out _ (tb_grow HTw.out))))
                      | (go_at_call 19; (with_reducible exact quiet_below (HP3.out _ (tb_grow HTw.out))))
                      | (go_at_call 20; exact quiet_below (awake12_any _ (tb_grow HTw.out)))))
                  refine wpQuiet_nil ?_
                  intro w3 hb3
                  have hbr := below_next HMk.out.below hb3
                  clear hb3 hpp hqq
                  go_wp2
                  go_ret
                  exact ⟨rfl, hbr⟩
      · have d0 : decide (0 ≤ c 83) = false := decide_eq_false h0
        have HM6 := Lib.hid (show Two w w.heap.size b c (Y.turn2 c) U1 by rw [HT2.out, if_neg (fun h => h0 h.1)]; exact HM5.out)
        clear h0
        go_upto_region 17 with fail
        clear c83 d0
        clear HM5 HT2
        go_wp2_with ((with_reducible refine wp_store_cell rfl _ _ _ rfl ?_); refine ⟨b, 65, _, _, _, rfl, rfl, HM6.out.q, (by decide), rfl, Tryd.size_u64T, ?_⟩; intro U7 hP hq; have HM7 : Hid (Two w w.heap.size b c (Y.turn3 c 0) U7) := Lib.hid (HM6.out.put hP hq); clear hP hq)
        clear HM6
        go_loopw [6] (fun i wr => ∃ r : Nat, r ≤ 8 ∧ i = .int .u64 (r : Int) ∧ Two w w.heap.size b c (Y.turn3 c r) wr) (fun i _ => 8 - (intOf i).toNat)
        case atStart => exact ⟨0, Nat.zero_le _, rfl, HM7.out⟩
        case round =>
          obtain ⟨r, hr, rfl, hM⟩ := hrel
          have HM := Lib.hid hM
          clear hM HM7
          have p65 := HM.out.p.cellK 65 (by decide) .u64 rfl
          have q65 := HM.out.q.cellK 65 (by decide) .u64 rfl
          rw [HU.out] at p65
          rw [show Y.turn3 c r 65 = U (Y.flipTo (Y.prom c) r) from upd_same _ _ _] at q65
          have HS := Lib.hid (show Y.flipTo (Y.prom c) (r + 1) = bOr (Y.flipTo (Y.prom c) r) (bShl (bAnd (bShr (Y.prom c) (8 * r)) 255#64) (56 - 8 * r)) from rfl)
          have HS2 := Lib.hid (fun v => show upd (Y.turn3 c r) 65 v = upd (Y.turn2 c) 65 v from upd_upd _ _ _ _)
          have HS3 := Lib.hid (show Y.turn3 c (r + 1) = upd (Y.turn2 c) 65 (U (Y.flipTo (Y.prom c) (r + 1))) from rfl)
          generalize Y.flipTo (Y.prom c) (r + 1) = F1 at HS HS3
          generalize Y.flipTo (Y.prom c) r = F at HS q65
          generalize Y.prom c = m at HS p65
          have h255 := and255 (bShr m (8 * r))
          rcases (show r = 0 ∨ r = 1 ∨ r = 2 ∨ r = 3 ∨ r = 4 ∨ r = 5 ∨ r = 6 ∨ r = 7 ∨ r = 8 by omega) with rfl | rfl | rfl | rfl | rfl | rfl | rfl | rfl | rfl
          · replace h255 : bits .and .u64 (U (bShr m 0)) 255 = U (bAnd (bShr m 0) 255#64) := h255
            replace HS : Hid (F1 = bOr F (bShl (bAnd (bShr m 0) 255#64) 56)) := Lib.hid HS.out
            go_wp2_with ((with_reducible refine wp_store_cell rfl _ _ _ rfl ?_); refine ⟨b, 65, _, _, _, rfl, rfl, HM.out.q, (by decide), rfl, Tryd.size_u64T, ?_⟩; intro U8 hP hq; have HM8 := Lib.hid (HM.out.put hP hq); clear hP hq)
            go_roundw
            case rel => exact ⟨1, by omega, rfl, by rw [HS3.out, HS.out, ← HS2.out]; exact HM8.out⟩
            case measure => simp [intOf]
          · replace h255 : bits .and .u64 (U (bShr m 8)) 255 = U (bAnd (bShr m 8) 255#64) := h255
            replace HS : Hid (F1 = bOr F (bShl (bAnd (bShr m 8) 255#64) 48)) := Lib.hid HS.out
            go_wp2_with ((with_reducible refine wp_store_cell rfl _ _ _ rfl ?_); refine ⟨b, 65, _, _, _, rfl, rfl, HM.out.q, (by decide), rfl, Tryd.size_u64T, ?_⟩; intro U8 hP hq; have HM8 := Lib.hid (HM.out.put hP hq); clear hP hq)
            go_roundw
            case rel => exact ⟨2, by omega, rfl, by rw [HS3.out, HS.out, ← HS2.out]; exact HM8.out⟩
            case measure => simp [intOf]
          · replace h255 : bits .and .u64 (U (bShr m 16)) 255 = U (bAnd (bShr m 16) 255#64) := h255
            replace HS : Hid (F1 = bOr F (bShl (bAnd (bShr m 16) 255#64) 40)) := Lib.hid HS.out
            go_wp2_with ((with_reducible refine wp_store_cell rfl _ _ _ rfl ?_); refine ⟨b, 65, _, _, _, rfl, rfl, HM.out.q, (by decide), rfl, Tryd.size_u64T, ?_⟩; intro U8 hP hq; have HM8 := Lib.hid (HM.out.put hP hq); clear hP hq)
            go_roundw
            case rel => exact ⟨3, by omega, rfl, by rw [HS3.out, HS.out, ← HS2.out]; exact HM8.out⟩
            case measure => simp [intOf]
          · replace h255 : bits .and .u64 (U (bShr m 24)) 255 = U (bAnd (bShr m 24) 255#64) := h255
            replace HS : Hid (F1 = bOr F (bShl (bAnd (bShr m 24) 255#64) 32)) := Lib.hid HS.out
            go_wp2_with ((with_reducible refine wp_store_cell rfl _ _ _ rfl ?_); refine ⟨b, 65, _, _, _, rfl, rfl, HM.out.q, (by decide), rfl, Tryd.size_u64T, ?_⟩; intro U8 hP hq; have HM8 := Lib.hid (HM.out.put hP hq); clear hP hq)
            go_roundw
            case rel => exact ⟨4, by omega, rfl, by rw [HS3.out, HS.out, ← HS2.out]; exact HM8.out⟩
            case measure => simp [intOf]
          · replace h255 : bits .and .u64 (U (bShr m 32)) 255 = U (bAnd (bShr m 32) 255#64) := h255
            replace HS : Hid (F1 = bOr F (bShl (bAnd (bShr m 32) 255#64) 24)) := Lib.hid HS.out
            go_wp2_with ((with_reducible refine wp_store_cell rfl _ _ _ rfl ?_); refine ⟨b, 65, _, _, _, rfl, rfl, HM.out.q, (by decide), rfl, Tryd.size_u64T, ?_⟩; intro U8 hP hq; have HM8 := Lib.hid (HM.out.put hP hq); clear hP hq)
            go_roundw
            case rel => exact ⟨5, by omega, rfl, by rw [HS3.out, HS.out, ← HS2.out]; exact HM8.out⟩
            case measure => simp [intOf]
          · replace h255 : bits .and .u64 (U (bShr m 40)) 255 = U (bAnd (bShr m 40) 255#64) := h255
            replace HS : Hid (F1 = bOr F (bShl (bAnd (bShr m 40) 255#64) 16)) := Lib.hid HS.out
            go_wp2_with ((with_reducible refine wp_store_cell rfl _ _ _ rfl ?_); refine ⟨b, 65, _, _, _, rfl, rfl, HM.out.q, (by decide), rfl, Tryd.size_u64T, ?_⟩; intro U8 hP hq; have HM8 := Lib.hid (HM.out.put hP hq); clear hP hq)
            go_roundw
            case rel => exact ⟨6, by omega, rfl, by rw [HS3.out, HS.out, ← HS2.out]; exact HM8.out⟩
            case measure => simp [intOf]
          · replace h255 : bits .and .u64 (U (bShr m 48)) 255 = U (bAnd (bShr m 48) 255#64) := h255
            replace HS : Hid (F1 = bOr F (bShl (bAnd (bShr m 48) 255#64) 8)) := Lib.hid HS.out
            go_wp2_with ((with_reducible refine wp_store_cell rfl _ _ _ rfl ?_); refine ⟨b, 65, _, _, _, rfl, rfl, HM.out.q, (by decide), rfl, Tryd.size_u64T, ?_⟩; intro U8 hP hq; have HM8 := Lib.hid (HM.out.put hP hq); clear hP hq)
            go_roundw
            case rel => exact ⟨7, by omega, rfl, by rw [HS3.out, HS.out, ← HS2.out]; exact HM8.out⟩
            case measure => simp [intOf]
          · replace h255 : bits .and .u64 (U (bShr m 56)) 255 = U (bAnd (bShr m 56) 255#64) := h255
            replace HS : Hid (F1 = bOr F (bShl (bAnd (bShr m 56) 255#64) 0)) := Lib.hid HS.out
            go_wp2_with ((with_reducible refine wp_store_cell rfl _ _ _ rfl ?_); refine ⟨b, 65, _, _, _, rfl, rfl, HM.out.q, (by decide), rfl, Tryd.size_u64T, ?_⟩; intro U8 hP hq; have HM8 := Lib.hid (HM.out.put hP hq); clear hP hq)
            go_roundw
            case rel => exact ⟨8, by omega, rfl, by rw [HS3.out, HS.out, ← HS2.out]; exact HM8.out⟩
            case measure => simp [intOf]
          · clear p65 q65 HS HS2 HS3 h255
            go_wp2
            go_loopw [7] (fun i wr => ∃ k : Nat, k ≤ 64 ∧ i = .int .i64 (k : Int) ∧ Y.No8 c k ∧ Two w w.heap.size b c (Y.turn3 c 8) wr) (fun i _ => 64 - (intOf i).toNat)
            case atStart => exact ⟨0, Nat.zero_le _, rfl, (fun j hj => by omega), HM.out⟩
            case round =>
              obtain ⟨k, hk, rfl, hN, hM⟩ := hrel
              have HN := Lib.hid hN
              have HMk := Lib.hid hM
              clear hN hM HM
              by_cases hlt : k < 64
              · have hcl := HMk.out.p.bd hlt
                have HNx := Lib.hid (fun h => Y.No8.next (c := c) (k := k) HN.out h)
                have H8k := Lib.hid (fun h => H8.out k hlt h)
                generalize c (1 + k) = x at *
                by_cases hx : x = 8
                · have E := Lib.hid (H8k.out hx)
                  rw [E.out] at HP1
                  subst hx
                  clear HNx H8k
                  go_wp2_with (first
                    | ((with_reducible refine wp_load_box_g rfl _ rfl ?_); refine ⟨_, _, rfl, HMk.out.p, ?_⟩)
                    | (go_at_call 19; refine (HP1.out _ (HT.out _ HMk.out.below)).mono ?_; rintro e w5 ⟨rfl, hb5⟩; have HB5 := Lib.hid (below_next HMk.out.below hb5); clear hb5)
                    | (go_at_call 20; refine (awake12_any _ (HT.out _ HB5.out)).mono ?_; rintro e w6 ⟨rfl, hb6⟩; have HB6 := Lib.hid (below_next HB5.out hb6); clear hb6))
                  go_ret
                  exact ⟨rfl, HB6.out⟩
                · have e8 : (x == 8) = false := by simpa using hx
                  have E := Lib.hid (HNx.out hx)
                  clear HNx H8k hx
                  go_wp2
                  go_roundw
                  case rel => exact ⟨k + 1, by omega, by go_num, E.out, HMk.out⟩
                  case measure => simp [intOf]; omega
              · obtain rfl : k = 64 := by omega
                have HP3 := Lib.hid (HP2.out HN.out)
                have hpp := HMk.out.p
                have hqq : PosAt wr b (Y.turnV c) := HMk.out.q.congr (fun i hi => Y.turn3_eq c i hi)
                have HTw := Lib.hid (HT.out _ HMk.out.below)
                clear HN HP2 hlt hk
                generalize Y.first c = fc at HP1 HP3
                go_wp2
                refine region_below (by kernel_rfl) (by kernel_rfl) ?_
                try simp only [Act.put]
                repeat (first
                  | (go_big_quiet_want; refine quiet_load_box _ rfl ⟨_, c, rfl, hpp, ?_⟩; simp only [Act.put, List.setIfInBounds_toArray, List.set_cons_succ, List.set_cons_zero]; go_big_quiet_on)
                  | (go_big_quiet_want; refine quiet_load_box _ rfl ⟨_, Y.turnV c, rfl, hqq, ?_⟩; simp only [Act.put, List.setIfInBounds_toArray, List.set_cons_succ, List.set_cons_zero]; go_big_quiet_on)
                  | go_big_quiet_step (first
                    | (go_at_call 19; (with_reducible exact quiet_below (HP1.out _ (tb_grow HTw.out))))
                    | (go_at_call 19; (with_reducible exact quiet_below (HP3.out _ (tb_grow HTw.out))))
                    | (go_at_call 20; exact quiet_below (awake12_any _ (tb_grow HTw.out)))))
                refine wpQuiet_nil ?_
                intro w3 hb3
                have hbr := below_next HMk.out.below hb3
                clear hb3 hpp hqq
                go_wp2
                go_ret
                exact ⟨rfl, hbr⟩
theorem validTurned_walk (c : Nat → Int) (w : World) (hc : PosOk c) (hT : Tb w) :
    Calls Tryd.prog 8 #[.agg (posC c)] w fun e w' => e = .returned (.bool true) ∧ Below w.heap.size w w' := by
  by_cases h7 : c 0 = 7
  · exact validTurned_h c w hT h7
  · exact validTurned_n c w hc hT h7
end Go.Proofs.YtlphjjekamhnlaaDoor
