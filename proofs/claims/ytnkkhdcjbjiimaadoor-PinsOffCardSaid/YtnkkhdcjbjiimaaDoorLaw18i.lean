/- The laws of layer 18: PinsFew. -/
import Derived.Test.YtnkkhdcjbjiimaaDoorLaw18h
namespace Go.Proofs.YtnkkhdcjbjiimaaDoor
open Go.RowKit Go.Sort

theorem standard_val (c : Nat → Int) (b : Bool) (w : World) (hc : PosOk c) (h : stdOk c = b) :
    Calls Tryd.prog 34 #[.agg (posC c)] w fun e w' => e = .returned (.tuple #[.agg (posC (stdP c)), .bool b]) ∧ Below w.heap.size w w' := by
  rw [← h]; exact standard_any c w hc
theorem king18_val (c : Nat → Int) (color n : Int) (w : World) (hc : BdOk c) (hk : color = 0 ∨ color = 1) (h : D.find c color 6 = n) :
    Calls Tryd.prog 35 #[.agg (posC c), .int .u8 color] w fun e w' => e = .returned (.int .i64 n) ∧ Below w.heap.size w w' := by
  rw [← h]; exact king18_any c color w hc hk
/-- A store of a whole position into its own box: what lay below stays. -/
theorem put_below {g : Nat} {w w' : World} {B : Nat} {w0 : World} (h : Put g w w') (hb : Below B w0 w) (hg : B ≤ g) : Below B w0 w' := h.below hb hg

set_option maxRecDepth 100000 in
set_option maxHeartbeats 4000000 in
theorem pinsFew_walk (c : Nat → Int) (color : Bool) (w : World) (hc : PosOk c) (hT : Tb w) :
    Calls Tryd.prog 12 #[.agg (posC c), .bool color] w fun e w' => e = .returned (.bool true) ∧ Below w.heap.size w w' := by
  have Hc := Lib.hid hc
  have Hq := Lib.hid (stdP_bd c (pos_bd hc))
  have hb0 : Below w.heap.size w (w.alloc (.cells (posC c) 31)) := (Below.refl _ _).alloc (Nat.le_refl _) _
  have HT := Lib.hid (fun W (hb : Below w.heap.size w W) => tb_below hT hb)
  have hp := PosAt.new w c
  clear hT hc
  cases hok : stdOk c
  · have Hok := Lib.hid hok
    clear hok
    go_enter Tryd.func12, Tryd.ntmps12
    go_wp2_with (first
      | ((with_reducible refine wp_load_box rfl _ rfl ?_); refine ⟨_, _, rfl, (by assumption), ?_⟩)
      | ((with_reducible refine wp_store_box rfl _ _ rfl ?_); refine ⟨_, stdP c, rfl, rfl, ⟨_, hp.heap, posC_size _⟩, ?_⟩; intro V hV hp2; replace hb0 := hV.below hb0 (by omega); clear hV hp; have hp := hp2; clear hp2)
      | (go_at_call 34; refine (standard_val c false _ Hc.out Hok.out).mono ?_; rintro e u ⟨rfl, hb⟩; replace hp := hp.below hb; replace hb0 := below_next hb0 hb; clear hb)
      | (go_at_call 27; refine (awake18_any _ (HT.out _ hb0)).mono ?_; rintro e u ⟨rfl, hb⟩; replace hp := hp.below hb; replace hb0 := below_next hb0 hb; clear hb))
    go_ret
    exact ⟨rfl, hb0⟩
  · obtain ⟨k, hk, hk01⟩ : ∃ k : Int, (if color = true then (1 : Int) else 0) = k ∧ (k = 0 ∨ k = 1) := ⟨_, rfl, by cases color <;> simp⟩
    have Hok := Lib.hid hok
    clear hok
    go_enter Tryd.func12, Tryd.ntmps12
    cases color
    · simp only [if_false, Bool.false_eq_true] at hk
      subst hk
      go_wp2_with (first
        | ((with_reducible refine wp_load_box rfl _ rfl ?_); refine ⟨_, _, rfl, (by assumption), ?_⟩)
        | ((with_reducible refine wp_store_box rfl _ _ rfl ?_); refine ⟨_, stdP c, rfl, rfl, ⟨_, hp.heap, posC_size _⟩, ?_⟩; intro V hV hp2; replace hb0 := hV.below hb0 (by omega); clear hV hp; have hp := hp2; clear hp2)
        | (go_at_call 34; refine (standard_val c true _ Hc.out Hok.out).mono ?_; rintro e u ⟨rfl, hb⟩; replace hp := hp.below hb; replace hb0 := below_next hb0 hb; clear hb)
        | (go_at_call 26; refine (pof_any (stdP c) _ _ Hq.out (HT.out _ hb0)).mono ?_; rintro e u ⟨rfl, hb⟩; replace hp := hp.below hb; replace hb0 := below_next hb0 hb; clear hb))
      have hfew := fun s hs => few_at c 0 s (pos_bd Hc.out) Hok.out (by decide) hs
      have h8 := N.men_few (stdP c) 0
      obtain ⟨b, hbv⟩ : ∃ b, N.men (N.pins (stdP c) 0) = b := ⟨_, rfl⟩
      have Hbv := Lib.hid hbv
      rw [hbv] at hfew h8
      rw [hbv]
      have Hfew := Lib.hid hfew
      have H8 := Lib.hid h8
      have HP := Lib.hid hp
      have HB := Lib.hid hb0
      clear hfew h8 hbv hp hb0
      go_loopw [8, 9] (fun x i wr => ∃ n : Nat, n ≤ 64 ∧ i = .int .i64 (n : Int) ∧ x = .int .i64 (C.cnt b.toNat n : Int) ∧ PosAt wr w.heap.size (stdP c) ∧ Below w.heap.size w wr) (fun _ i _ => 64 - (intOf i).toNat)
      case atStart => exact ⟨0, by omega, rfl, rfl, HP.out, HB.out⟩
      case round =>
        obtain ⟨n, hn, rfl, rfl, hp, hbr⟩ := hrel
        clear HP HB
        by_cases hlt : n < 64
        · obtain ⟨x0, x1⟩ := (pos_bd Hc.out) n hlt
          have hcl := hp.bd hlt
          rw [stdP_at c n hlt] at hcl
          have hln := C.cnt_le b.toNat n
          obtain ⟨f1, f2, f3⟩ := Hfew.out n hlt
          have hct : C.cnt b.toNat (n + 1) = C.cnt b.toNat n + (if bit b n then 1 else 0) := cnt_bit b n
          have hdiv : U b / 2 ^ n = U (bShr b n) := by have := bv_shr_nat b n; rwa [Nat.min_eq_left (by omega)] at this
          have hsh : bit (bShr b n) 0 = bit b n := by rw [bit_shr, Nat.add_zero]
          have hd1 : decide ((n : Int) < 0) = false := by simp
          have hd2 : decide (64 ≤ (n : Int)) = false := by simp; omega
          have hm : (c (1 + n)).tmod 8 = c (1 + n) % 8 := Int.tmod_eq_emod_of_nonneg x0
          have hd : (c (1 + n)).tdiv 8 = c (1 + n) / 8 := Int.tdiv_eq_ediv_of_nonneg x0
          generalize C.cnt b.toNat n = m at *
          generalize c (1 + n) = x at *
          cases hin : bit b n
          · have hq : (bv1 (bit (bShr b n) 0) == 1) = false := by rw [hsh, hin]; rfl
            rw [hin, if_neg (by simp), Nat.add_zero] at hct
            have Hct := Lib.hid hct
            clear hct hsh
            by_cases hz : x = 0
            · have hl0 := f3 hz
              have Pl := Lib.hid (fun W (hT : Tb W) => pline_val (stdP c) n 0 W Hq.out hT (by rw [hl0]; rfl))
              clear f1 f2 f3 hin hl0
              subst hz
              go_wp2_with (first
                | ((with_reducible refine wp_load_box_g rfl _ rfl ?_); refine ⟨_, _, rfl, (by assumption), ?_⟩)
                | (go_at_call 30; refine (Pl.out _ (HT.out _ hbr)).mono ?_; rintro e u ⟨rfl, hb⟩; replace hp := hp.below hb; replace hbr := below_next hbr hb; clear hb))
              exact ⟨⟨n + 1, by omega, by go_num, by rw [Hct.out]; rfl, hp, hbr⟩, by simp [intOf]; omega⟩
            · have hz1 : (x == 0) = false := by simpa using hz
              have hz2 : (x != 0) = true := by simpa using hz
              by_cases hc8 : x / 8 = 0
              · have hl0 := f2 hz hc8 hin
                have Pl := Lib.hid (fun W (hT : Tb W) => pline_val (stdP c) n 18446744073709551615 W Hq.out hT (by rw [hl0]; rfl))
                have hc1 : (x / 8 == 0) = true := by simpa using hc8
                have hc2 : (x / 8 != 0) = false := by simpa using hc8
                clear f1 f2 f3 hin hl0 hz hc8
                go_wp2_with (first
                  | ((with_reducible refine wp_load_box_g rfl _ rfl ?_); refine ⟨_, _, rfl, (by assumption), ?_⟩)
                  | (go_at_call 30; refine (Pl.out _ (HT.out _ hbr)).mono ?_; rintro e u ⟨rfl, hb⟩; replace hp := hp.below hb; replace hbr := below_next hbr hb; clear hb))
                exact ⟨⟨n + 1, by omega, by go_num, by rw [Hct.out]; rfl, hp, hbr⟩, by simp [intOf]; omega⟩
              · have hc1 : (x / 8 == 0) = false := by simpa using hc8
                have hc2 : (x / 8 != 0) = true := by simpa using hc8
                clear f1 f2 f3 hin hz hc8
                go_wp2_with fail
                exact ⟨⟨n + 1, by omega, by go_num, by rw [Hct.out]; rfl, hp, hbr⟩, by simp [intOf]; omega⟩
          · have hq : (bv1 (bit (bShr b n) 0) == 1) = true := by rw [hsh, hin]; rfl
            rw [hin, if_pos rfl] at hct
            obtain ⟨g1, g2, g3⟩ := f1 hin
            have hz1 : (x == 0) = false := by simpa using g1
            have hz2 : (x != 0) = true := by simpa using g1
            have hc1 : (x / 8 == 0) = true := by simpa using g2
            have hc2 : (x / 8 != 0) = false := by simpa using g2
            have h61 : (x % 8 == 6) = false := by simpa using g3
            have Hct := Lib.hid hct
            clear hct hsh f1 f2 f3 hin g1 g2 g3
            go_wp2_with fail
            exact ⟨⟨n + 1, by omega, by go_num, by rw [Hct.out]; go_num, hp, hbr⟩, by simp [intOf]; omega⟩
        · obtain rfl : n = 64 := by omega
          have hc8 := H8.out
          obtain ⟨f, hf⟩ : ∃ f, D.find (stdP c) 0 6 = f := ⟨_, rfl⟩
          have hfb := D.find_bd (stdP c) 0 6
          rw [hf] at hfb
          have Pk := Lib.hid (fun W => king18_val (stdP c) 0 f W Hq.out (by decide) hf)
          have P2 := Lib.hid (fun W (hT : Tb W) => pof_val (stdP c) 2 0 W Hq.out hT (by rw [few_two]; rfl))
          have hfk : f < 0 → C.cnt b.toNat 64 = 0 ∧ N.blocks (stdP c) 0 = 0#64 := fun h => by
            obtain ⟨h1, h2⟩ := few_king (stdP c) 0 (by omega) Hq.out
            exact ⟨by rw [← Hbv.out, h1]; decide, h2⟩
          generalize C.cnt b.toNat 64 = m at *
          clear hf
          by_cases hf0 : f < 0
          · obtain ⟨hm0, hbl⟩ := hfk hf0
            have Pb := Lib.hid (fun W (hT : Tb W) => pblocks_val (stdP c) 0 0 W Hq.out hT (by rw [hbl]; rfl))
            clear hfk hbl hfb
            subst hm0
            go_wp2_with (first
              | ((with_reducible refine wp_load_box_g rfl _ rfl ?_); refine ⟨_, _, rfl, (by assumption), ?_⟩)
              | ((with_reducible refine wp_load_box rfl _ rfl ?_); refine ⟨_, _, rfl, (by assumption), ?_⟩)
              | (go_at_call 35; refine (Pk.out _).mono ?_; rintro e u ⟨rfl, hb⟩; replace hp := hp.below hb; replace hbr := below_next hbr hb; clear hb)
              | (go_at_call 32; refine (Pb.out _ (HT.out _ hbr)).mono ?_; rintro e u ⟨rfl, hb⟩; replace hp := hp.below hb; replace hbr := below_next hbr hb; clear hb)
              | (go_at_call 26; refine (P2.out _ (HT.out _ hbr)).mono ?_; rintro e u ⟨rfl, hb⟩; replace hp := hp.below hb; replace hbr := below_next hbr hb; clear hb)
              | (go_at_call 27; refine (awake18_any _ (HT.out _ hbr)).mono ?_; rintro e u ⟨rfl, hb⟩; replace hp := hp.below hb; replace hbr := below_next hbr hb; clear hb))
            go_ret
            exact ⟨rfl, hbr⟩
          · clear hfk hfb
            have hf1 : 0 ≤ f := by omega
            have hm8 : (m : Int) ≤ 8 := by omega
            clear hf0
            go_wp2_with (first
              | ((with_reducible refine wp_load_box_g rfl _ rfl ?_); refine ⟨_, _, rfl, (by assumption), ?_⟩)
              | ((with_reducible refine wp_load_box rfl _ rfl ?_); refine ⟨_, _, rfl, (by assumption), ?_⟩)
              | (go_at_call 35; refine (Pk.out _).mono ?_; rintro e u ⟨rfl, hb⟩; replace hp := hp.below hb; replace hbr := below_next hbr hb; clear hb)
              | (go_at_call 26; refine (P2.out _ (HT.out _ hbr)).mono ?_; rintro e u ⟨rfl, hb⟩; replace hp := hp.below hb; replace hbr := below_next hbr hb; clear hb)
              | (go_at_call 27; refine (awake18_any _ (HT.out _ hbr)).mono ?_; rintro e u ⟨rfl, hb⟩; replace hp := hp.below hb; replace hbr := below_next hbr hb; clear hb))
            go_ret
            exact ⟨rfl, hbr⟩
    · simp only [if_true] at hk
      subst hk
      go_wp2_with (first
        | ((with_reducible refine wp_load_box rfl _ rfl ?_); refine ⟨_, _, rfl, (by assumption), ?_⟩)
        | ((with_reducible refine wp_store_box rfl _ _ rfl ?_); refine ⟨_, stdP c, rfl, rfl, ⟨_, hp.heap, posC_size _⟩, ?_⟩; intro V hV hp2; replace hb0 := hV.below hb0 (by omega); clear hV hp; have hp := hp2; clear hp2)
        | (go_at_call 34; refine (standard_val c true _ Hc.out Hok.out).mono ?_; rintro e u ⟨rfl, hb⟩; replace hp := hp.below hb; replace hb0 := below_next hb0 hb; clear hb)
        | (go_at_call 26; refine (pof_any (stdP c) _ _ Hq.out (HT.out _ hb0)).mono ?_; rintro e u ⟨rfl, hb⟩; replace hp := hp.below hb; replace hb0 := below_next hb0 hb; clear hb))
      have hfew := fun s hs => few_at c 1 s (pos_bd Hc.out) Hok.out (by decide) hs
      have h8 := N.men_few (stdP c) 1
      obtain ⟨b, hbv⟩ : ∃ b, N.men (N.pins (stdP c) 1) = b := ⟨_, rfl⟩
      have Hbv := Lib.hid hbv
      rw [hbv] at hfew h8
      rw [hbv]
      have Hfew := Lib.hid hfew
      have H8 := Lib.hid h8
      have HP := Lib.hid hp
      have HB := Lib.hid hb0
      clear hfew h8 hbv hp hb0
      go_loopw [8, 9] (fun x i wr => ∃ n : Nat, n ≤ 64 ∧ i = .int .i64 (n : Int) ∧ x = .int .i64 (C.cnt b.toNat n : Int) ∧ PosAt wr w.heap.size (stdP c) ∧ Below w.heap.size w wr) (fun _ i _ => 64 - (intOf i).toNat)
      case atStart => exact ⟨0, by omega, rfl, rfl, HP.out, HB.out⟩
      case round =>
        obtain ⟨n, hn, rfl, rfl, hp, hbr⟩ := hrel
        clear HP HB
        by_cases hlt : n < 64
        · obtain ⟨x0, x1⟩ := (pos_bd Hc.out) n hlt
          have hcl := hp.bd hlt
          rw [stdP_at c n hlt] at hcl
          have hln := C.cnt_le b.toNat n
          obtain ⟨f1, f2, f3⟩ := Hfew.out n hlt
          have hct : C.cnt b.toNat (n + 1) = C.cnt b.toNat n + (if bit b n then 1 else 0) := cnt_bit b n
          have hdiv : U b / 2 ^ n = U (bShr b n) := by have := bv_shr_nat b n; rwa [Nat.min_eq_left (by omega)] at this
          have hsh : bit (bShr b n) 0 = bit b n := by rw [bit_shr, Nat.add_zero]
          have hd1 : decide ((n : Int) < 0) = false := by simp
          have hd2 : decide (64 ≤ (n : Int)) = false := by simp; omega
          have hm : (c (1 + n)).tmod 8 = c (1 + n) % 8 := Int.tmod_eq_emod_of_nonneg x0
          have hd : (c (1 + n)).tdiv 8 = c (1 + n) / 8 := Int.tdiv_eq_ediv_of_nonneg x0
          generalize C.cnt b.toNat n = m at *
          generalize c (1 + n) = x at *
          cases hin : bit b n
          · have hq : (bv1 (bit (bShr b n) 0) == 1) = false := by rw [hsh, hin]; rfl
            rw [hin, if_neg (by simp), Nat.add_zero] at hct
            have Hct := Lib.hid hct
            clear hct hsh
            by_cases hz : x = 0
            · have hl0 := f3 hz
              have Pl := Lib.hid (fun W (hT : Tb W) => pline_val (stdP c) n 0 W Hq.out hT (by rw [hl0]; rfl))
              clear f1 f2 f3 hin hl0
              subst hz
              go_wp2_with (first
                | ((with_reducible refine wp_load_box_g rfl _ rfl ?_); refine ⟨_, _, rfl, (by assumption), ?_⟩)
                | (go_at_call 30; refine (Pl.out _ (HT.out _ hbr)).mono ?_; rintro e u ⟨rfl, hb⟩; replace hp := hp.below hb; replace hbr := below_next hbr hb; clear hb))
              exact ⟨⟨n + 1, by omega, by go_num, by rw [Hct.out]; rfl, hp, hbr⟩, by simp [intOf]; omega⟩
            · have hz1 : (x == 0) = false := by simpa using hz
              have hz2 : (x != 0) = true := by simpa using hz
              by_cases hc8 : x / 8 = 1
              · have hl0 := f2 hz hc8 hin
                have Pl := Lib.hid (fun W (hT : Tb W) => pline_val (stdP c) n 18446744073709551615 W Hq.out hT (by rw [hl0]; rfl))
                have hc1 : (x / 8 == 1) = true := by simpa using hc8
                have hc2 : (x / 8 != 1) = false := by simpa using hc8
                clear f1 f2 f3 hin hl0 hz hc8
                go_wp2_with (first
                  | ((with_reducible refine wp_load_box_g rfl _ rfl ?_); refine ⟨_, _, rfl, (by assumption), ?_⟩)
                  | (go_at_call 30; refine (Pl.out _ (HT.out _ hbr)).mono ?_; rintro e u ⟨rfl, hb⟩; replace hp := hp.below hb; replace hbr := below_next hbr hb; clear hb))
                exact ⟨⟨n + 1, by omega, by go_num, by rw [Hct.out]; rfl, hp, hbr⟩, by simp [intOf]; omega⟩
              · have hc1 : (x / 8 == 1) = false := by simpa using hc8
                have hc2 : (x / 8 != 1) = true := by simpa using hc8
                clear f1 f2 f3 hin hz hc8
                go_wp2_with fail
                exact ⟨⟨n + 1, by omega, by go_num, by rw [Hct.out]; rfl, hp, hbr⟩, by simp [intOf]; omega⟩
          · have hq : (bv1 (bit (bShr b n) 0) == 1) = true := by rw [hsh, hin]; rfl
            rw [hin, if_pos rfl] at hct
            obtain ⟨g1, g2, g3⟩ := f1 hin
            have hz1 : (x == 0) = false := by simpa using g1
            have hz2 : (x != 0) = true := by simpa using g1
            have hc1 : (x / 8 == 1) = true := by simpa using g2
            have hc2 : (x / 8 != 1) = false := by simpa using g2
            have h61 : (x % 8 == 6) = false := by simpa using g3
            have Hct := Lib.hid hct
            clear hct hsh f1 f2 f3 hin g1 g2 g3
            go_wp2_with fail
            exact ⟨⟨n + 1, by omega, by go_num, by rw [Hct.out]; go_num, hp, hbr⟩, by simp [intOf]; omega⟩
        · obtain rfl : n = 64 := by omega
          have hc8 := H8.out
          obtain ⟨f, hf⟩ : ∃ f, D.find (stdP c) 1 6 = f := ⟨_, rfl⟩
          have hfb := D.find_bd (stdP c) 1 6
          rw [hf] at hfb
          have Pk := Lib.hid (fun W => king18_val (stdP c) 1 f W Hq.out (by decide) hf)
          have P2 := Lib.hid (fun W (hT : Tb W) => pof_val (stdP c) 2 0 W Hq.out hT (by rw [few_two]; rfl))
          have hfk : f < 0 → C.cnt b.toNat 64 = 0 ∧ N.blocks (stdP c) 1 = 0#64 := fun h => by
            obtain ⟨h1, h2⟩ := few_king (stdP c) 1 (by omega) Hq.out
            exact ⟨by rw [← Hbv.out, h1]; decide, h2⟩
          generalize C.cnt b.toNat 64 = m at *
          clear hf
          by_cases hf0 : f < 0
          · obtain ⟨hm0, hbl⟩ := hfk hf0
            have Pb := Lib.hid (fun W (hT : Tb W) => pblocks_val (stdP c) 1 0 W Hq.out hT (by rw [hbl]; rfl))
            clear hfk hbl hfb
            subst hm0
            go_wp2_with (first
              | ((with_reducible refine wp_load_box_g rfl _ rfl ?_); refine ⟨_, _, rfl, (by assumption), ?_⟩)
              | ((with_reducible refine wp_load_box rfl _ rfl ?_); refine ⟨_, _, rfl, (by assumption), ?_⟩)
              | (go_at_call 35; refine (Pk.out _).mono ?_; rintro e u ⟨rfl, hb⟩; replace hp := hp.below hb; replace hbr := below_next hbr hb; clear hb)
              | (go_at_call 32; refine (Pb.out _ (HT.out _ hbr)).mono ?_; rintro e u ⟨rfl, hb⟩; replace hp := hp.below hb; replace hbr := below_next hbr hb; clear hb)
              | (go_at_call 26; refine (P2.out _ (HT.out _ hbr)).mono ?_; rintro e u ⟨rfl, hb⟩; replace hp := hp.below hb; replace hbr := below_next hbr hb; clear hb)
              | (go_at_call 27; refine (awake18_any _ (HT.out _ hbr)).mono ?_; rintro e u ⟨rfl, hb⟩; replace hp := hp.below hb; replace hbr := below_next hbr hb; clear hb))
            go_ret
            exact ⟨rfl, hbr⟩
          · clear hfk hfb
            have hf1 : 0 ≤ f := by omega
            have hm8 : (m : Int) ≤ 8 := by omega
            clear hf0
            go_wp2_with (first
              | ((with_reducible refine wp_load_box_g rfl _ rfl ?_); refine ⟨_, _, rfl, (by assumption), ?_⟩)
              | ((with_reducible refine wp_load_box rfl _ rfl ?_); refine ⟨_, _, rfl, (by assumption), ?_⟩)
              | (go_at_call 35; refine (Pk.out _).mono ?_; rintro e u ⟨rfl, hb⟩; replace hp := hp.below hb; replace hbr := below_next hbr hb; clear hb)
              | (go_at_call 26; refine (P2.out _ (HT.out _ hbr)).mono ?_; rintro e u ⟨rfl, hb⟩; replace hp := hp.below hb; replace hbr := below_next hbr hb; clear hb)
              | (go_at_call 27; refine (awake18_any _ (HT.out _ hbr)).mono ?_; rintro e u ⟨rfl, hb⟩; replace hp := hp.below hb; replace hbr := below_next hbr hb; clear hb))
            go_ret
            exact ⟨rfl, hbr⟩

end Go.Proofs.YtnkkhdcjbjiimaaDoor
