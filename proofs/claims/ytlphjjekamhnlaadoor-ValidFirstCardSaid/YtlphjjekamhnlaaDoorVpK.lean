/- The program's package valid: kings. -/
import Derived.Test.YtlphjjekamhnlaaDoorVpD
import Derived.Test.YtlphjjekamhnlaaDoorOwnL
import Derived.Test.YtlphjjekamhnlaaDoorList
namespace Go.Proofs.YtlphjjekamhnlaaDoor
open Go.RowKit Go.Sort
attribute [local go_sem] Oper.semAt_some

set_option maxRecDepth 100000 in
set_option maxHeartbeats 8000000 in
theorem vkings_any (c : Nat → Int) (w : World) (hc : PosOk c) (ht : c 78 = 0 ∨ c 78 = 1) :
    Calls Tryd.prog 64 #[.agg (posC c)] w fun e w' => e = .returned (.bool (Y.kings c)) ∧ Below w.heap.size w w' := by
  have hp := PosIn.new w 70 c
  have c0 := hp.cell 0 (by decide) .u8 rfl
  have hb0 : Below w.heap.size w (w.alloc (.cells (posC c) 70)) := (Below.refl _ _).alloc (Nat.le_refl _) _
  cases h4 : (c 0 == 4)
  rotate_left
  · have E := Lib.hid (show Y.kings c = true by unfold Y.kings; rw [h4]; rfl)
    clear hc ht
    go_enter Tryd.func64, Tryd.ntmps64
    go_wp2
    go_ret
    exact ⟨ret_bool E.out.symm, hb0⟩
  have HE := Lib.hid (show Y.kings c = (Y.kingOk c 0 && Y.kingOk c 1) by unfold Y.kings; rw [h4]; rfl)
  obtain ⟨v0, v1⟩ := pos_u8 hc (i := 0) (by decide) rfl
  obtain ⟨v, hvv⟩ : ∃ v : Nat, c 0 = (v : Int) := ⟨(c 0).toNat, by omega⟩
  have HKO := Lib.hid (fun t : Int => show Y.kingOk c t = if V.royal (c 0) t = true then Y.cnt c t == 1 || (Y.cnt c t == 0 && (c 0 == 3 && c 78 == t)) else Y.cnt c t == 0 from rfl)
  obtain ⟨n0, hn0⟩ : ∃ n, Y.cnt c 0 = n := ⟨_, rfl⟩
  obtain ⟨r0, hr0⟩ : ∃ r, V.royal (c 0) 0 = r := ⟨_, rfl⟩
  have HN0 : Hid (∀ w, Calls Tryd.prog 100 #[.agg (posC c), .int .u8 0, .int .u8 6] w fun e w' => e = .returned (.int .i64 (n0 : Int)) ∧ Below w.heap.size w w') := Lib.hid (fun w => by rw [← hn0]; exact vcount_any c 0 w hc (by decide) (by decide))
  have HR0 : Hid (∀ w, Calls Tryd.prog 101 #[.int .u8 (c 0), .int .u8 0] w fun e w' => e = .returned (.bool r0) ∧ Below w.heap.size w w') := Lib.hid (fun w => by rw [← hr0, hvv]; exact royal_any v 0 w (by decide))
  have HK0 := Lib.hid (show Y.kingOk c 0 = if r0 = true then n0 == 1 || (n0 == 0 && (c 0 == 3 && c 78 == 0)) else n0 == 0 by rw [HKO.out, hn0, hr0])
  obtain ⟨n1, hn1⟩ : ∃ n, Y.cnt c 1 = n := ⟨_, rfl⟩
  obtain ⟨r1, hr1⟩ : ∃ r, V.royal (c 0) 1 = r := ⟨_, rfl⟩
  have HN1 : Hid (∀ w, Calls Tryd.prog 100 #[.agg (posC c), .int .u8 1, .int .u8 6] w fun e w' => e = .returned (.int .i64 (n1 : Int)) ∧ Below w.heap.size w w') := Lib.hid (fun w => by rw [← hn1]; exact vcount_any c 1 w hc (by decide) (by decide))
  have HR1 : Hid (∀ w, Calls Tryd.prog 101 #[.int .u8 (c 0), .int .u8 1] w fun e w' => e = .returned (.bool r1) ∧ Below w.heap.size w w') := Lib.hid (fun w => by rw [← hr1, hvv]; exact royal_any v 1 w (by decide))
  have HK1 := Lib.hid (show Y.kingOk c 1 = if r1 = true then n1 == 1 || (n1 == 0 && (c 0 == 3 && c 78 == 1)) else n1 == 0 by rw [HKO.out, hn1, hr1])
  have HP := Lib.hid (And.intro hp hb0)
  have c78 := hp.cell 78 (by decide) .u8 rfl
  obtain ⟨t78, ht78⟩ : ∃ t, c 78 = t := ⟨_, rfl⟩
  have HT78 := Lib.hid ht78
  rw [ht78] at c78 ht HK0 HK1
  obtain ⟨b3, h3⟩ : ∃ b, (c 0 == 3) = b := ⟨_, rfl⟩
  have hne3 : (c 0 != 3) = !b3 := by rw [← h3]; rfl
  rw [h3] at HK0 HK1
  clear hc hvv v0 v1 hn0 hn1 hr0 hr1 hp hb0 HKO h3 ht78
  go_enter Tryd.func64, Tryd.ntmps64
  go_wp2
  clear c0 c78
  go_loopw [3] (fun i wr => ∃ t : Nat, t ≤ 2 ∧ i = .int .u8 (t : Int) ∧ (1 ≤ t → Y.kingOk c 0 = true) ∧ (2 ≤ t → Y.kingOk c 1 = true) ∧ PosIn wr w.heap.size 70 c ∧ Below w.heap.size w wr) (fun i _ => 2 - (intOf i).toNat)
  case atStart => exact ⟨0, Nat.zero_le _, rfl, (fun h => by omega), (fun h => by omega), HP.out.1, HP.out.2⟩
  case round =>
    obtain ⟨t, htt, rfl, hz1, hz2, hp, hbr⟩ := hrel
    have HZ := Lib.hid (And.intro hz1 hz2)
    have HQ := Lib.hid (And.intro hp hbr)
    clear hz1 hz2 hp hbr
    rcases (show t = 0 ∨ t = 1 ∨ t = 2 by omega) with rfl | rfl | rfl
    · cases r0
      · by_cases hn : n0 = 0
        · subst hn
          have E := Lib.hid (show Y.kingOk c 0 = true by rw [HK0.out]; rfl)
          go_wp2_with (first | ((with_reducible refine wp_load_rowG rfl 70 _ rfl Tryd.underlying70 rfl ?_); refine ⟨w.heap.size, _, posC c, rfl, HQ.out.1.row, Tryd.info_Ask.trans (by rw [posC_size]), ?_⟩) | (go_at_call 100; refine (HN0.out _).mono ?_; rintro e w2 ⟨rfl, hb2⟩; have hp2 := HQ.out.1.below hb2; have hbr2 := below_next HQ.out.2 hb2; have c0' := hp2.cell 0 (by decide) .u8 rfl) | (go_at_call 101; refine (HR0.out _).mono ?_; rintro e w3 ⟨rfl, hb3⟩; have hp3 := hp2.below hb3; have hbr3 := below_next hbr2 hb3; have c0'' := hp3.cell 0 (by decide) .u8 rfl; have c78' := hp3.cell 78 (by decide) .u8 rfl; rw [HT78.out] at c78'))
          (go_roundw; (case rel => exact ⟨1, by omega, rfl, (fun _ => E.out), (fun h => by omega), hp3, hbr3⟩); (case measure => simp [intOf]))
        · have e1 : ((n0 : Int) != 0) = true := by simpa using hn
          have E := Lib.hid (show Y.kingOk c 0 = false by rw [HK0.out, if_neg (by decide)]; simpa using hn)
          clear hn
          go_wp2_with (first | ((with_reducible refine wp_load_rowG rfl 70 _ rfl Tryd.underlying70 rfl ?_); refine ⟨w.heap.size, _, posC c, rfl, HQ.out.1.row, Tryd.info_Ask.trans (by rw [posC_size]), ?_⟩) | (go_at_call 100; refine (HN0.out _).mono ?_; rintro e w2 ⟨rfl, hb2⟩; have hp2 := HQ.out.1.below hb2; have hbr2 := below_next HQ.out.2 hb2; have c0' := hp2.cell 0 (by decide) .u8 rfl) | (go_at_call 101; refine (HR0.out _).mono ?_; rintro e w3 ⟨rfl, hb3⟩; have hp3 := hp2.below hb3; have hbr3 := below_next hbr2 hb3; have c0'' := hp3.cell 0 (by decide) .u8 rfl; have c78' := hp3.cell 78 (by decide) .u8 rfl; rw [HT78.out] at c78'))
          (go_ret; exact ⟨ret_bool (show Y.kings c = false from (by rw [HE.out, E.out]; rfl)).symm, hbr3⟩)
      · by_cases hn1 : n0 = 1
        · subst hn1
          have E := Lib.hid (show Y.kingOk c 0 = true by rw [HK0.out]; rfl)
          go_wp2_with (first | ((with_reducible refine wp_load_rowG rfl 70 _ rfl Tryd.underlying70 rfl ?_); refine ⟨w.heap.size, _, posC c, rfl, HQ.out.1.row, Tryd.info_Ask.trans (by rw [posC_size]), ?_⟩) | (go_at_call 100; refine (HN0.out _).mono ?_; rintro e w2 ⟨rfl, hb2⟩; have hp2 := HQ.out.1.below hb2; have hbr2 := below_next HQ.out.2 hb2; have c0' := hp2.cell 0 (by decide) .u8 rfl) | (go_at_call 101; refine (HR0.out _).mono ?_; rintro e w3 ⟨rfl, hb3⟩; have hp3 := hp2.below hb3; have hbr3 := below_next hbr2 hb3; have c0'' := hp3.cell 0 (by decide) .u8 rfl; have c78' := hp3.cell 78 (by decide) .u8 rfl; rw [HT78.out] at c78'))
          (go_roundw; (case rel => exact ⟨1, by omega, rfl, (fun _ => E.out), (fun h => by omega), hp3, hbr3⟩); (case measure => simp [intOf]))
        · have e1 : ((n0 : Int) != 1) = true := by simp; omega
          by_cases hn : n0 = 0
          · subst hn
            cases b3
            · have E := Lib.hid (show Y.kingOk c 0 = false by rw [HK0.out]; rfl)
              clear e1 hn1
              go_wp2_with (first | ((with_reducible refine wp_load_rowG rfl 70 _ rfl Tryd.underlying70 rfl ?_); refine ⟨w.heap.size, _, posC c, rfl, HQ.out.1.row, Tryd.info_Ask.trans (by rw [posC_size]), ?_⟩) | (go_at_call 100; refine (HN0.out _).mono ?_; rintro e w2 ⟨rfl, hb2⟩; have hp2 := HQ.out.1.below hb2; have hbr2 := below_next HQ.out.2 hb2; have c0' := hp2.cell 0 (by decide) .u8 rfl) | (go_at_call 101; refine (HR0.out _).mono ?_; rintro e w3 ⟨rfl, hb3⟩; have hp3 := hp2.below hb3; have hbr3 := below_next hbr2 hb3; have c0'' := hp3.cell 0 (by decide) .u8 rfl; have c78' := hp3.cell 78 (by decide) .u8 rfl; rw [HT78.out] at c78'))
              (go_ret; exact ⟨ret_bool (show Y.kings c = false from (by rw [HE.out, E.out]; rfl)).symm, hbr3⟩)
            · rcases ht with rfl | rfl
              · have E := Lib.hid (show Y.kingOk c 0 = true by rw [HK0.out]; rfl)
                clear e1 hn1
                go_wp2_with (first | ((with_reducible refine wp_load_rowG rfl 70 _ rfl Tryd.underlying70 rfl ?_); refine ⟨w.heap.size, _, posC c, rfl, HQ.out.1.row, Tryd.info_Ask.trans (by rw [posC_size]), ?_⟩) | (go_at_call 100; refine (HN0.out _).mono ?_; rintro e w2 ⟨rfl, hb2⟩; have hp2 := HQ.out.1.below hb2; have hbr2 := below_next HQ.out.2 hb2; have c0' := hp2.cell 0 (by decide) .u8 rfl) | (go_at_call 101; refine (HR0.out _).mono ?_; rintro e w3 ⟨rfl, hb3⟩; have hp3 := hp2.below hb3; have hbr3 := below_next hbr2 hb3; have c0'' := hp3.cell 0 (by decide) .u8 rfl; have c78' := hp3.cell 78 (by decide) .u8 rfl; rw [HT78.out] at c78'))
                (go_roundw; (case rel => exact ⟨1, by omega, rfl, (fun _ => E.out), (fun h => by omega), hp3, hbr3⟩); (case measure => simp [intOf]))
              · have E := Lib.hid (show Y.kingOk c 0 = false by rw [HK0.out]; rfl)
                clear e1 hn1
                go_wp2_with (first | ((with_reducible refine wp_load_rowG rfl 70 _ rfl Tryd.underlying70 rfl ?_); refine ⟨w.heap.size, _, posC c, rfl, HQ.out.1.row, Tryd.info_Ask.trans (by rw [posC_size]), ?_⟩) | (go_at_call 100; refine (HN0.out _).mono ?_; rintro e w2 ⟨rfl, hb2⟩; have hp2 := HQ.out.1.below hb2; have hbr2 := below_next HQ.out.2 hb2; have c0' := hp2.cell 0 (by decide) .u8 rfl) | (go_at_call 101; refine (HR0.out _).mono ?_; rintro e w3 ⟨rfl, hb3⟩; have hp3 := hp2.below hb3; have hbr3 := below_next hbr2 hb3; have c0'' := hp3.cell 0 (by decide) .u8 rfl; have c78' := hp3.cell 78 (by decide) .u8 rfl; rw [HT78.out] at c78'))
                (go_ret; exact ⟨ret_bool (show Y.kings c = false from (by rw [HE.out, E.out]; rfl)).symm, hbr3⟩)
          · have e2 : ((n0 : Int) != 0) = true := by simpa using hn
            have E := Lib.hid (show Y.kingOk c 0 = false by rw [HK0.out, if_pos rfl, show (n0 == 1) = false by simpa using hn1, show (n0 == 0) = false by simpa using hn]; rfl)
            clear hn1 hn
            go_wp2_with (first | ((with_reducible refine wp_load_rowG rfl 70 _ rfl Tryd.underlying70 rfl ?_); refine ⟨w.heap.size, _, posC c, rfl, HQ.out.1.row, Tryd.info_Ask.trans (by rw [posC_size]), ?_⟩) | (go_at_call 100; refine (HN0.out _).mono ?_; rintro e w2 ⟨rfl, hb2⟩; have hp2 := HQ.out.1.below hb2; have hbr2 := below_next HQ.out.2 hb2; have c0' := hp2.cell 0 (by decide) .u8 rfl) | (go_at_call 101; refine (HR0.out _).mono ?_; rintro e w3 ⟨rfl, hb3⟩; have hp3 := hp2.below hb3; have hbr3 := below_next hbr2 hb3; have c0'' := hp3.cell 0 (by decide) .u8 rfl; have c78' := hp3.cell 78 (by decide) .u8 rfl; rw [HT78.out] at c78'))
            (go_ret; exact ⟨ret_bool (show Y.kings c = false from (by rw [HE.out, E.out]; rfl)).symm, hbr3⟩)
    · cases r1
      · by_cases hn : n1 = 0
        · subst hn
          have E := Lib.hid (show Y.kingOk c 1 = true by rw [HK1.out]; rfl)
          go_wp2_with (first | ((with_reducible refine wp_load_rowG rfl 70 _ rfl Tryd.underlying70 rfl ?_); refine ⟨w.heap.size, _, posC c, rfl, HQ.out.1.row, Tryd.info_Ask.trans (by rw [posC_size]), ?_⟩) | (go_at_call 100; refine (HN1.out _).mono ?_; rintro e w2 ⟨rfl, hb2⟩; have hp2 := HQ.out.1.below hb2; have hbr2 := below_next HQ.out.2 hb2; have c0' := hp2.cell 0 (by decide) .u8 rfl) | (go_at_call 101; refine (HR1.out _).mono ?_; rintro e w3 ⟨rfl, hb3⟩; have hp3 := hp2.below hb3; have hbr3 := below_next hbr2 hb3; have c0'' := hp3.cell 0 (by decide) .u8 rfl; have c78' := hp3.cell 78 (by decide) .u8 rfl; rw [HT78.out] at c78'))
          (go_roundw; (case rel => exact ⟨2, by omega, rfl, (fun _ => HZ.out.1 (by omega)), (fun _ => E.out), hp3, hbr3⟩); (case measure => simp [intOf]))
        · have e1 : ((n1 : Int) != 0) = true := by simpa using hn
          have E := Lib.hid (show Y.kingOk c 1 = false by rw [HK1.out, if_neg (by decide)]; simpa using hn)
          clear hn
          go_wp2_with (first | ((with_reducible refine wp_load_rowG rfl 70 _ rfl Tryd.underlying70 rfl ?_); refine ⟨w.heap.size, _, posC c, rfl, HQ.out.1.row, Tryd.info_Ask.trans (by rw [posC_size]), ?_⟩) | (go_at_call 100; refine (HN1.out _).mono ?_; rintro e w2 ⟨rfl, hb2⟩; have hp2 := HQ.out.1.below hb2; have hbr2 := below_next HQ.out.2 hb2; have c0' := hp2.cell 0 (by decide) .u8 rfl) | (go_at_call 101; refine (HR1.out _).mono ?_; rintro e w3 ⟨rfl, hb3⟩; have hp3 := hp2.below hb3; have hbr3 := below_next hbr2 hb3; have c0'' := hp3.cell 0 (by decide) .u8 rfl; have c78' := hp3.cell 78 (by decide) .u8 rfl; rw [HT78.out] at c78'))
          (go_ret; exact ⟨ret_bool (show Y.kings c = false from (by rw [HE.out, E.out, Bool.and_false])).symm, hbr3⟩)
      · by_cases hn1 : n1 = 1
        · subst hn1
          have E := Lib.hid (show Y.kingOk c 1 = true by rw [HK1.out]; rfl)
          go_wp2_with (first | ((with_reducible refine wp_load_rowG rfl 70 _ rfl Tryd.underlying70 rfl ?_); refine ⟨w.heap.size, _, posC c, rfl, HQ.out.1.row, Tryd.info_Ask.trans (by rw [posC_size]), ?_⟩) | (go_at_call 100; refine (HN1.out _).mono ?_; rintro e w2 ⟨rfl, hb2⟩; have hp2 := HQ.out.1.below hb2; have hbr2 := below_next HQ.out.2 hb2; have c0' := hp2.cell 0 (by decide) .u8 rfl) | (go_at_call 101; refine (HR1.out _).mono ?_; rintro e w3 ⟨rfl, hb3⟩; have hp3 := hp2.below hb3; have hbr3 := below_next hbr2 hb3; have c0'' := hp3.cell 0 (by decide) .u8 rfl; have c78' := hp3.cell 78 (by decide) .u8 rfl; rw [HT78.out] at c78'))
          (go_roundw; (case rel => exact ⟨2, by omega, rfl, (fun _ => HZ.out.1 (by omega)), (fun _ => E.out), hp3, hbr3⟩); (case measure => simp [intOf]))
        · have e1 : ((n1 : Int) != 1) = true := by simp; omega
          by_cases hn : n1 = 0
          · subst hn
            cases b3
            · have E := Lib.hid (show Y.kingOk c 1 = false by rw [HK1.out]; rfl)
              clear e1 hn1
              go_wp2_with (first | ((with_reducible refine wp_load_rowG rfl 70 _ rfl Tryd.underlying70 rfl ?_); refine ⟨w.heap.size, _, posC c, rfl, HQ.out.1.row, Tryd.info_Ask.trans (by rw [posC_size]), ?_⟩) | (go_at_call 100; refine (HN1.out _).mono ?_; rintro e w2 ⟨rfl, hb2⟩; have hp2 := HQ.out.1.below hb2; have hbr2 := below_next HQ.out.2 hb2; have c0' := hp2.cell 0 (by decide) .u8 rfl) | (go_at_call 101; refine (HR1.out _).mono ?_; rintro e w3 ⟨rfl, hb3⟩; have hp3 := hp2.below hb3; have hbr3 := below_next hbr2 hb3; have c0'' := hp3.cell 0 (by decide) .u8 rfl; have c78' := hp3.cell 78 (by decide) .u8 rfl; rw [HT78.out] at c78'))
              (go_ret; exact ⟨ret_bool (show Y.kings c = false from (by rw [HE.out, E.out, Bool.and_false])).symm, hbr3⟩)
            · rcases ht with rfl | rfl
              · have E := Lib.hid (show Y.kingOk c 1 = false by rw [HK1.out]; rfl)
                clear e1 hn1
                go_wp2_with (first | ((with_reducible refine wp_load_rowG rfl 70 _ rfl Tryd.underlying70 rfl ?_); refine ⟨w.heap.size, _, posC c, rfl, HQ.out.1.row, Tryd.info_Ask.trans (by rw [posC_size]), ?_⟩) | (go_at_call 100; refine (HN1.out _).mono ?_; rintro e w2 ⟨rfl, hb2⟩; have hp2 := HQ.out.1.below hb2; have hbr2 := below_next HQ.out.2 hb2; have c0' := hp2.cell 0 (by decide) .u8 rfl) | (go_at_call 101; refine (HR1.out _).mono ?_; rintro e w3 ⟨rfl, hb3⟩; have hp3 := hp2.below hb3; have hbr3 := below_next hbr2 hb3; have c0'' := hp3.cell 0 (by decide) .u8 rfl; have c78' := hp3.cell 78 (by decide) .u8 rfl; rw [HT78.out] at c78'))
                (go_ret; exact ⟨ret_bool (show Y.kings c = false from (by rw [HE.out, E.out, Bool.and_false])).symm, hbr3⟩)
              · have E := Lib.hid (show Y.kingOk c 1 = true by rw [HK1.out]; rfl)
                clear e1 hn1
                go_wp2_with (first | ((with_reducible refine wp_load_rowG rfl 70 _ rfl Tryd.underlying70 rfl ?_); refine ⟨w.heap.size, _, posC c, rfl, HQ.out.1.row, Tryd.info_Ask.trans (by rw [posC_size]), ?_⟩) | (go_at_call 100; refine (HN1.out _).mono ?_; rintro e w2 ⟨rfl, hb2⟩; have hp2 := HQ.out.1.below hb2; have hbr2 := below_next HQ.out.2 hb2; have c0' := hp2.cell 0 (by decide) .u8 rfl) | (go_at_call 101; refine (HR1.out _).mono ?_; rintro e w3 ⟨rfl, hb3⟩; have hp3 := hp2.below hb3; have hbr3 := below_next hbr2 hb3; have c0'' := hp3.cell 0 (by decide) .u8 rfl; have c78' := hp3.cell 78 (by decide) .u8 rfl; rw [HT78.out] at c78'))
                (go_roundw; (case rel => exact ⟨2, by omega, rfl, (fun _ => HZ.out.1 (by omega)), (fun _ => E.out), hp3, hbr3⟩); (case measure => simp [intOf]))
          · have e2 : ((n1 : Int) != 0) = true := by simpa using hn
            have E := Lib.hid (show Y.kingOk c 1 = false by rw [HK1.out, if_pos rfl, show (n1 == 1) = false by simpa using hn1, show (n1 == 0) = false by simpa using hn]; rfl)
            clear hn1 hn
            go_wp2_with (first | ((with_reducible refine wp_load_rowG rfl 70 _ rfl Tryd.underlying70 rfl ?_); refine ⟨w.heap.size, _, posC c, rfl, HQ.out.1.row, Tryd.info_Ask.trans (by rw [posC_size]), ?_⟩) | (go_at_call 100; refine (HN1.out _).mono ?_; rintro e w2 ⟨rfl, hb2⟩; have hp2 := HQ.out.1.below hb2; have hbr2 := below_next HQ.out.2 hb2; have c0' := hp2.cell 0 (by decide) .u8 rfl) | (go_at_call 101; refine (HR1.out _).mono ?_; rintro e w3 ⟨rfl, hb3⟩; have hp3 := hp2.below hb3; have hbr3 := below_next hbr2 hb3; have c0'' := hp3.cell 0 (by decide) .u8 rfl; have c78' := hp3.cell 78 (by decide) .u8 rfl; rw [HT78.out] at c78'))
            (go_ret; exact ⟨ret_bool (show Y.kings c = false from (by rw [HE.out, E.out, Bool.and_false])).symm, hbr3⟩)
    · have E := Lib.hid (show Y.kings c = true by rw [HE.out, HZ.out.1 (by omega), HZ.out.2 (by omega)]; rfl)
      have hbr := HQ.out.2
      go_wp2
      go_ret
      exact ⟨ret_bool E.out.symm, hbr⟩

end Go.Proofs.YtlphjjekamhnlaaDoor
