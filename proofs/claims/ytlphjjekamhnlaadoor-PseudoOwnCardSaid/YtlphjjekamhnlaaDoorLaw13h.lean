/- The law PseudoOwn: the walk. (its head printed by gen13o.py, the rest by gen13oc.py) -/
import Derived.Test.YtlphjjekamhnlaaDoorLaw13g
import Derived.Test.YtlphjjekamhnlaaDoorLaw13f
import Derived.Deep.CutRange
namespace Go.Proofs.YtlphjjekamhnlaaDoor
open Go.RowKit Go.Sort

theorem i8_div (b : Nat) (h : b < 64) : IntKind.i8.wrap ((b : Int) / 8) = (b : Int) / 8 := (show ∀ b : Fin 64, IntKind.i8.wrap (((b.val : Nat) : Int) / 8) = ((b.val : Nat) : Int) / 8 by decide +kernel) ⟨b, h⟩
set_option maxRecDepth 100000 in
set_option maxHeartbeats 64000000 in
theorem pseudoOwn_walk (c : Nat → Int) (w : World) (hc : PosOk c) (hT : Tb w) :
    Calls Tryd.prog 5 #[.agg (posC c)] w fun e w' => e = .returned (.bool true) ∧ Below w.heap.size w w' := by
  have HT := Lib.hid (fun W (hb : Below w.heap.size w W) => tb_below hT hb)
  have HC := Lib.hid hc
  have hp := PosAt.new w c
  have hb0 : Below w.heap.size w (w.alloc (.cells (posC c) 31)) := (Below.refl _ _).alloc (Nat.le_refl _) _
  obtain ⟨W, hW⟩ : ∃ W, w.alloc (.cells (posC c) 31) = W := ⟨_, rfl⟩
  rw [hW] at hp hb0
  clear hT hc
  cases hl : law13 c
  · have HL := Lib.hid hl
    clear hl
    go_enter Tryd.func5, Tryd.ntmps5
    go_wp2_with (first
      | ((with_reducible refine wp_load_box rfl _ rfl ?_); refine ⟨_, _, rfl, hp, ?_⟩)
      | (go_at_call 16; refine (lawful13_eq c false _ HC.out HL.out).mono ?_; rintro e w3 ⟨rfl, hb3⟩; have HB3 := Lib.hid (below_next hb0 hb3))
      | (go_at_call 15; refine (awake13_any _ (HT.out _ HB3.out)).mono ?_; rintro e w4 ⟨rfl, hb4⟩))
    go_ret
    exact ⟨rfl, below_next HB3.out hb4⟩
  · have HL := Lib.hid hl
    clear hl
    have HL1 : Hid (∀ w, Tb w → Calls Tryd.prog 12 #[.agg (posC c)] w (Z.End (D.lst c) w)) := Lib.hid (fun w hw => plist_any c w HC.out hw)
    have HOW : Hid (∀ m ∈ D.lst c, ∃ (t a b k : Nat), c 78 = (t : Int) ∧ t ≤ 1 ∧ a < 64 ∧ b < 64 ∧ k ≤ 6 ∧ m = Z.mv a b k ∧ c (1 + a) ≠ 0 ∧ c (1 + a) / 8 = (t : Int) ∧ ¬ (c (1 + b) ≠ 0 ∧ c (1 + b) / 8 = (t : Int)) ∧ ((k ≠ 0) ↔ (c (1 + a) % 8 = 1 ∧ (((b : Int) / 8 = 7 ∧ t = 0) ∨ ((b : Int) / 8 = 0 ∧ t = 1))))) := Lib.hid (fun m hm => own13 c HC.out HL.out m hm)
    have HNX : Hid (∀ i x y, (D.lst c)[i]? = some x → (D.lst c)[i + 1]? = some y → mvLt x y) := Lib.hid (fun i x y hx hy => next13 c i x y hx hy)
    have hl1 := lst_len c
    go_enter Tryd.func5, Tryd.ntmps5
    go_wp2_with (first
      | ((with_reducible refine wp_load_box rfl _ rfl ?_); refine ⟨_, _, rfl, hp, ?_⟩)
      | (go_at_call 16; refine (lawful13_eq c true _ HC.out HL.out).mono ?_; rintro e w3 ⟨rfl, hb3⟩; have HB3 := Lib.hid (below_next hb0 hb3); have hp3 := hp.below hb3; clear hb3)
      | ((with_reducible refine wp_load_box rfl _ rfl ?_); refine ⟨_, _, rfl, hp3, ?_⟩)
      | (go_at_call 12; (with_reducible refine (HL1.out _ (HT.out _ HB3.out)).mono ?_); rintro e uu4 ⟨v4, rfl, hown4, hb⟩; have HB4 := Lib.hid (below_next HB3.out hb); have HP4 := Lib.hid (hp3.below hb); obtain ⟨ao1, cap1, rfl, hcp1, hcm1, hat1⟩ := mrow_open hb hown4; clear hb hown4 hp3 hcp1 hcm1))
    obtain ⟨L, hL⟩ : ∃ L, D.lst c = L := ⟨_, rfl⟩
    rw [hL] at hl1 HOW HNX hat1 ⊢
    have HA1 := Lib.hid hat1
    clear hat1 hL hp hb0 hW HL1
    go_loopw [4] (fun i wr => ∃ k : Nat, k ≤ L.length ∧ i = .int .i64 (k : Int) ∧ Below uu4.heap.size uu4 wr) (fun i _ => L.length - (intOf i).toNat)
    case atStart => exact ⟨0, Nat.zero_le _, rfl, Below.refl _ _⟩
    case round =>
      obtain ⟨j, hj, rfl, hbr⟩ := hrel
      by_cases hlt : j < L.length
      · obtain ⟨x1, hx1⟩ : ∃ x1, L[j]? = some x1 := ⟨L[j], List.getElem?_eq_getElem hlt⟩
        have hmem := List.mem_of_getElem? hx1
        obtain ⟨b1, hao1, hb1, hcell1⟩ := HA1.out (by omega)
        cases hao1
        obtain ⟨t, a, b, k, ht, ht1, ha, hb64, hk6, hxe, hx0, hxt, hy0, hkx⟩ := HOW.out x1 hmem
        rw [show x1 = ((a : Int), (b : Int), (k : Int), 0, false) from hxe] at hx1
        have hAr := (hcell1 j _ hx1).below hbr
        obtain ⟨m0, m1, m2, m3, m4⟩ := hAr.five
        have hpr := HP4.out.below hbr
        have hpw := hpr.alloc (.cells #[.int .i8 (a : Int), .int .i8 (b : Int), .int .u8 (k : Int), .int .u8 0, .bool false] 36)
        have hsa := bd_cell hpw.heap a ha
        have hsb := bd_cell hpw.heap b hb64
        obtain ⟨x0, x255⟩ := pos_bd HC.out a ha
        obtain ⟨y0, y255⟩ := pos_bd HC.out b hb64
        obtain ⟨x, hx⟩ : ∃ x, c (1 + a) = x := ⟨_, rfl⟩
        obtain ⟨y, hy⟩ : ∃ y, c (1 + b) = y := ⟨_, rfl⟩
        rw [hx] at hsa x0 x255 hx0 hxt hkx
        rw [hy] at hsb y0 y255 hy0
        have hxm : x.tmod 8 = x % 8 := Int.tmod_eq_emod_of_nonneg x0
        have hxd : x.tdiv 8 = x / 8 := Int.tdiv_eq_ediv_of_nonneg x0
        have hyd : y.tdiv 8 = y / 8 := Int.tdiv_eq_ediv_of_nonneg y0
        have hx8 : x / 8 % 256 = x / 8 := by omega
        have hy8 : y / 8 % 256 = y / 8 := by omega
        have hbd8 := tdiv8 b
        have hbw := i8_div b hb64
        have HH := Lib.hid hlt
        have HBR := Lib.hid hbr
        have HPR := Lib.hid hpr
        have HX1 := Lib.hid hx1
        have HCL := Lib.hid hcell1
        have HTT := Lib.hid ht
        have HS := step_num' j L.length hlt
        have HS2 := step_num j L.length hlt (by omega)
        have HST := Lib.hid (And.intro HS HS2)
        have hm := RowAt.new wr #[.int .i8 (a : Int), .int .i8 (b : Int), .int .u8 (k : Int), .int .u8 0, .bool false] 36
        have HM := Lib.hid hm
        have hwl := hpr.lt
        have hb1l : b1 < wr.heap.size := by have := hbr.size; omega
        have FX : Hid (((x == 0) = false) ∧ ((x / 8 != (t : Int)) = false)) := Lib.hid ⟨by simpa using hx0, by simpa using hxt⟩
        have FY : Hid (((y != 0) = false) ∨ (((y != 0) = true) ∧ ((y / 8 == (t : Int)) = false))) := Lib.hid (by
          by_cases h : y = 0
          · exact .inl (by simp [h])
          · exact .inr ⟨by simpa using h, by simpa using fun e => hy0 ⟨h, e⟩⟩)
        have FK := Lib.hid hkx
        have HT1 := Lib.hid ht1
        clear hcell1 hx1 hmem hAr hj hxe hb1 hpr hx hy hbr HS HS2 x0 x255 y0 y255 hpw hm hx0 hxt hy0 hkx ht hk6 ht1
        go_wp2
        have hlw : wr.heap.size < (wr.alloc (.cells #[.int .i8 (a : Int), .int .i8 (b : Int), .int .u8 (k : Int), .int .u8 0, .bool false] 36)).heap.size := by simp
        have hlw2 : w.heap.size < (wr.alloc (.cells #[.int .i8 (a : Int), .int .i8 (b : Int), .int .u8 (k : Int), .int .u8 0, .bool false] 36)).heap.size := by simp; omega
        have n0 := HM.out.cell 0
        have n1 := HM.out.cell 1
        simp only [List.getElem?_toArray, List.getElem?_cons_zero, List.getElem?_cons_succ] at n0 n1
        refine region_below (by kernel_rfl) (by kernel_rfl) ?_
        repeat (go_big_quiet_step (fail))
        refine wpQuiet_nil ?_
        intro w5 hb5
        have hm5 := HM.out.below hb5
        have q0 := hm5.cell 0
        have q1 := hm5.cell 1
        have q2 := hm5.cell 2
        have q3 := hm5.cell 3
        have q4 := hm5.cell 4
        simp only [List.getElem?_toArray, List.getElem?_cons_zero, List.getElem?_cons_succ] at q0 q1 q2 q3 q4
        have h78 := ((HPR.out.alloc (.cells #[.int .i8 (a : Int), .int .i8 (b : Int), .int .u8 (k : Int), .int .u8 0, .bool false] 36)).below hb5).cell (i := 78) (by decide)
        rw [show pk 78 = .u8 from rfl, HTT.out] at h78
        have HB5 := Lib.hid (below_next (HBR.out.alloc HBR.out.size (.cells #[.int .i8 (a : Int), .int .i8 (b : Int), .int .u8 (k : Int), .int .u8 0, .bool false] 36)) hb5)
        have HPV : Hid (∀ i m, L[i]? = some m → M.At w5 b1 (i * 5) m) := Lib.hid (fun i m hi => ((HCL.out i m hi).below HBR.out).below ((((Below.refl wr.heap.size wr).alloc (Nat.le_refl _) (.cells #[.int .i8 (a : Int), .int .i8 (b : Int), .int .u8 (k : Int), .int .u8 0, .bool false] 36)).trans (hb5.mono (by simp)))))
        have hlq5 := hm5.lt
        have fx0 := FX.out.1
        have fx1 := FX.out.2
        have HLT := Lib.hid hlt
        clear hm5 hb5 n0 n1 m0 m1 m2 m3 m4 hsa hsb hlw hlw2 hwl hb1l
        have HAB := Lib.hid (And.intro ha hb64)
        clear ha hb64
        obtain ⟨LA, hLA⟩ : ∃ LA : Bool, LA = decide (((b : Int) / 8 = 7 ∧ t = 0) ∨ ((b : Int) / 8 = 0 ∧ t = 1)) := ⟨_, rfl⟩
        have FLA := Lib.hid hLA
        clear hLA
        go_upto_region 9 with fail
        go_cut [8] from 16 to 136 (fun s8 wx => s8 = .bool LA ∧ w5 = wx)
        case first =>
          have ht2 := HT1.out
          rcases (show t = 0 ∨ t = 1 by omega) with rfl | rfl
          · replace h78 : w5.cell? ⟨w.heap.size, 78, none⟩ = some (.int .u8 0) := h78
            clear ht2
            by_cases r7 : (b : Int) / 8 = 7
            · have e7 : ((b : Int) / 8 == 7) = true := by simpa using r7
              have e0 : ((b : Int) / 8 == 0) = false := by simp; omega
              have E := Lib.hid (show LA = true by rw [FLA.out]; exact decide_eq_true (by omega))
              clear r7
              go_wp2
              go_meet
              exact ⟨by rw [E.out], rfl⟩
            · have e7 : ((b : Int) / 8 == 7) = false := by simpa using r7
              by_cases r0 : (b : Int) / 8 = 0
              · have e0 : ((b : Int) / 8 == 0) = true := by simpa using r0
                have E := Lib.hid (show LA = false by rw [FLA.out]; exact decide_eq_false (by omega))
                clear r7 r0
                go_wp2
                go_meet
                exact ⟨by rw [E.out], rfl⟩
              · have e0 : ((b : Int) / 8 == 0) = false := by simpa using r0
                have E := Lib.hid (show LA = false by rw [FLA.out]; exact decide_eq_false (by omega))
                clear r7 r0
                go_wp2
                go_meet
                exact ⟨by rw [E.out], rfl⟩
          · replace h78 : w5.cell? ⟨w.heap.size, 78, none⟩ = some (.int .u8 1) := h78
            clear ht2
            by_cases r7 : (b : Int) / 8 = 7
            · have e7 : ((b : Int) / 8 == 7) = true := by simpa using r7
              have e0 : ((b : Int) / 8 == 0) = false := by simp; omega
              have E := Lib.hid (show LA = false by rw [FLA.out]; exact decide_eq_false (by omega))
              clear r7
              go_wp2
              go_meet
              exact ⟨by rw [E.out], rfl⟩
            · have e7 : ((b : Int) / 8 == 7) = false := by simpa using r7
              by_cases r0 : (b : Int) / 8 = 0
              · have e0 : ((b : Int) / 8 == 0) = true := by simpa using r0
                have E := Lib.hid (show LA = true by rw [FLA.out]; exact decide_eq_true (by omega))
                clear r7 r0
                go_wp2
                go_meet
                exact ⟨by rw [E.out], rfl⟩
              · have e0 : ((b : Int) / 8 == 0) = false := by simpa using r0
                have E := Lib.hid (show LA = false by rw [FLA.out]; exact decide_eq_false (by omega))
                clear r7 r0
                go_wp2
                go_meet
                exact ⟨by rw [E.out], rfl⟩
        case rest =>
          obtain ⟨rfl, rfl⟩ := hcut
          go_upto_region 10 with fail
          go_cut [96] from 16 to 136 (fun s96 wx => s96 = .bool false ∧ w5 = wx)
          case first =>
            cases LA
            · by_cases ex : x % 8 = 1
              · have ex1 : (x % 8 == 1) = true := by simpa using ex
                have hk0 : k = 0 := Classical.byContradiction (fun h => of_decide_eq_false FLA.out.symm (FK.out.1 h).2)
                have ek : ((k : Int) != 0) = false := by simp; omega
                clear ex hk0
                rcases FY.out with ey | ⟨ey, ez⟩
                · go_wp2
                  go_meet
                  exact ⟨rfl, rfl⟩
                · go_wp2
                  go_meet
                  exact ⟨rfl, rfl⟩
              · have ex1 : (x % 8 == 1) = false := by simpa using ex
                have hk0 : k = 0 := Classical.byContradiction (fun h => ex (FK.out.1 h).1)
                have ek : ((k : Int) != 0) = false := by simp; omega
                clear ex hk0
                rcases FY.out with ey | ⟨ey, ez⟩
                · go_wp2
                  go_meet
                  exact ⟨rfl, rfl⟩
                · go_wp2
                  go_meet
                  exact ⟨rfl, rfl⟩
            · by_cases ex : x % 8 = 1
              · have ex1 : (x % 8 == 1) = true := by simpa using ex
                have hk0 : k ≠ 0 := FK.out.2 ⟨ex, of_decide_eq_true FLA.out.symm⟩
                have ek : ((k : Int) != 0) = true := by simp; omega
                clear ex hk0
                rcases FY.out with ey | ⟨ey, ez⟩
                · go_wp2
                  go_meet
                  exact ⟨rfl, rfl⟩
                · go_wp2
                  go_meet
                  exact ⟨rfl, rfl⟩
              · have ex1 : (x % 8 == 1) = false := by simpa using ex
                have hk0 : k = 0 := Classical.byContradiction (fun h => ex (FK.out.1 h).1)
                have ek : ((k : Int) != 0) = false := by simp; omega
                clear ex hk0
                rcases FY.out with ey | ⟨ey, ez⟩
                · go_wp2
                  go_meet
                  exact ⟨rfl, rfl⟩
                · go_wp2
                  go_meet
                  exact ⟨rfl, rfl⟩
          obtain ⟨rfl, rfl⟩ := hcut
          by_cases hj0 : 0 < j
          · have d9 : decide ((0 : Int) < (j : Int)) = true := by simp; omega
            have hil : j - 1 < L.length := by have := HLT.out; omega
            obtain ⟨⟨f', g', p', e', v'⟩, hz⟩ : ∃ z, L[j - 1]? = some z := ⟨L[j - 1], List.getElem?_eq_getElem hil⟩
            have hnx := HNX.out (j - 1) _ _ hz (by rw [show j - 1 + 1 = j by omega]; exact HX1.out)
            obtain ⟨r0, r1, r2, r3, r4⟩ := (HPV.out (j - 1) _ hz).five
            have HIL := Lib.hid hil
            unfold mvLt at hnx
            simp only at hnx
            clear hz
            rcases hnx with h1 | ⟨rfl, h1 | ⟨rfl, h1⟩⟩
            · have u1 : decide ((a : Int) < f') = false := by simp; omega
              have u2 : (f' == (a : Int)) = false := by simp; omega
              clear h1
              go_wp2
              first
                | exact ⟨⟨j + 1, HH.out, by first | exact HST.out.1.1 | exact HST.out.2.1, HB5.out.alloc HB5.out.size _⟩, by first | exact HST.out.1.2 | exact HST.out.2.2⟩
                | (go_roundw
                   case rel => first | exact ⟨j + 1, HH.out, by first | exact HST.out.1.1 | exact HST.out.2.1, HB5.out.alloc HB5.out.size _⟩ | ((repeat apply Exists.intro); exact ⟨⟨j + 1, HH.out, by first | exact HST.out.1.1 | exact HST.out.2.1, HB5.out.alloc HB5.out.size _⟩, rfl⟩)
                   case measure => exact (by first | exact HST.out.1.2 | exact HST.out.2.2))
            · have u1 : decide ((b : Int) < g') = false := by simp; omega
              have u2 : (g' == (b : Int)) = false := by simp; omega
              clear h1
              go_wp2
              first
                | exact ⟨⟨j + 1, HH.out, by first | exact HST.out.1.1 | exact HST.out.2.1, HB5.out.alloc HB5.out.size _⟩, by first | exact HST.out.1.2 | exact HST.out.2.2⟩
                | (go_roundw
                   case rel => first | exact ⟨j + 1, HH.out, by first | exact HST.out.1.1 | exact HST.out.2.1, HB5.out.alloc HB5.out.size _⟩ | ((repeat apply Exists.intro); exact ⟨⟨j + 1, HH.out, by first | exact HST.out.1.1 | exact HST.out.2.1, HB5.out.alloc HB5.out.size _⟩, rfl⟩)
                   case measure => exact (by first | exact HST.out.1.2 | exact HST.out.2.2))
            · have u1 : decide ((k : Int) ≤ p') = false := by simp; omega
              clear h1
              go_wp2
              first
                | exact ⟨⟨j + 1, HH.out, by first | exact HST.out.1.1 | exact HST.out.2.1, HB5.out.alloc HB5.out.size _⟩, by first | exact HST.out.1.2 | exact HST.out.2.2⟩
                | (go_roundw
                   case rel => first | exact ⟨j + 1, HH.out, by first | exact HST.out.1.1 | exact HST.out.2.1, HB5.out.alloc HB5.out.size _⟩ | ((repeat apply Exists.intro); exact ⟨⟨j + 1, HH.out, by first | exact HST.out.1.1 | exact HST.out.2.1, HB5.out.alloc HB5.out.size _⟩, rfl⟩)
                   case measure => exact (by first | exact HST.out.1.2 | exact HST.out.2.2))
          · have d9 : decide ((0 : Int) < (j : Int)) = false := by simp; omega
            go_wp2
            first
              | exact ⟨⟨j + 1, HH.out, by first | exact HST.out.1.1 | exact HST.out.2.1, HB5.out⟩, by first | exact HST.out.1.2 | exact HST.out.2.2⟩
              | (go_roundw
                 case rel => first | exact ⟨j + 1, HH.out, by first | exact HST.out.1.1 | exact HST.out.2.1, HB5.out⟩ | ((repeat apply Exists.intro); exact ⟨⟨j + 1, HH.out, by first | exact HST.out.1.1 | exact HST.out.2.1, HB5.out⟩, rfl⟩)
                 case measure => exact (by first | exact HST.out.1.2 | exact HST.out.2.2))
      · obtain rfl : j = L.length := by omega
        have HF := Lib.hid (below_next HB4.out hbr)
        clear hbr hj hlt
        go_wp2_with (go_at_call 15; refine (awake13_any _ (HT.out _ HF.out)).mono ?_; rintro e w9 ⟨rfl, hb9⟩)
        go_ret
        exact ⟨rfl, below_next HF.out hb9⟩
end Go.Proofs.YtlphjjekamhnlaaDoor
