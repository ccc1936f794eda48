/- Several texts in one: CastU, CastV. -/

import Derived.Test.YtgkndhpolcnjbaaGreatDoorZv
namespace Go.Proofs.YtgkndhpolcnjbaaGreatDoor
open Go.RowKit Go.Sort
attribute [local go_sem] Oper.semAt_some
end Go.Proofs.YtgkndhpolcnjbaaGreatDoor
namespace Go.Proofs.YtgkndhpolcnjbaaGreatDoor
open Go.RowKit Go.Sort
attribute [local go_sem] Oper.semAt_some
/-- The document's: a square is not attacked. -/
def T.dsafe (q : Nat → Int) (t s : Nat) : Bool := (q 0 == 3 && D.near q (t : Int) (s : Int) 0 64) || (U (D.by' q (s : Int) (1 - (t : Int))) == 0)
set_option maxRecDepth 100000 in
set_option maxHeartbeats 2000000 in
theorem d14safe_0 (q : Nat → Int) (s : Nat) (w : World) (hq : BdOk q) (hqt : q 78 = 0) (hs : s < 64) :
    Calls Tryz.prog 190 #[.agg (posC q), .int .i64 (s : Int)] w fun e w' => e = .returned (.bool (T.dsafe q 0 s)) ∧ Below w.heap.size w w' := by
  have Hc := Lib.hid hq
  clear hq
  have hHB := Lib.hid (show Below w.heap.size w (w.alloc (.cells (posC q) 31)) from (Below.refl _ _).alloc (Nat.le_refl _) _)
  have hHP := Lib.hid (PosAt.new w q)
  obtain ⟨v, hv⟩ : ∃ v, D.by' q (s : Int) 1 = v := ⟨_, rfl⟩
  obtain ⟨u, hu⟩ : ∃ u, (U v == 0) = u := ⟨_, rfl⟩
  have Hsafe := Lib.hid (show T.dsafe q 0 s = ((q 0 == 3 && D.near q 0 (s : Int) 0 64) || u) from by unfold T.dsafe; rw [← hu, ← hv]; rfl)
  have HB := Lib.hid (fun W => d8by_val q (s : Int) 1 v W Hc.out hv)
  clear hv
  cases hv3 : (q 0 == 3)
  · have e := Lib.hid (show T.dsafe q 0 s = u by rw [Hsafe.out, hv3]; rfl)
    go_enter Tryz.func190, Tryz.ntmps190
    go_wp2
    go_loopw [5] (fun i wr => i = .int .i64 0 ∧ PosAt wr w.heap.size q ∧ Below w.heap.size w wr) (fun _ _ => 0)
    case atStart => exact ⟨rfl, hHP.out, hHB.out⟩
    case round =>
      obtain ⟨rfl, hp, hbr⟩ := hrel
      have h0 := hp.cell (i := 0) (by decide)
      have h78 := hp.cell (i := 78) (by decide)
      rw [show pk 0 = .u8 from rfl] at h0
      rw [hqt, show pk 78 = .u8 from rfl] at h78
      go_wp2_with (first | ((with_reducible refine wp_load_box rfl _ rfl ?_); refine ⟨_, _, rfl, (by assumption), ?_⟩) | (go_at_call 231; refine (HB.out _).mono ?_; rintro e w2 ⟨rfl, hb2⟩; replace hp := hp.below hb2; replace hbr := below_next hbr hb2; clear hb2))
      go_ret
      exact ⟨ret_bool e.out.symm, hbr⟩
  · have ek := Lib.hid (show T.dsafe q 0 s = (D.near q 0 (s : Int) 0 64 || u) by rw [Hsafe.out, hv3]; rfl)
    go_enter Tryz.func190, Tryz.ntmps190
    go_wp2
    go_loopw [5] (fun i wr => ∃ k : Nat, k ≤ 64 ∧ i = .int .i64 (k : Int) ∧ D.near q 0 (s : Int) 0 64 = D.near q 0 (s : Int) k (64 - k) ∧ PosAt wr w.heap.size q ∧ Below w.heap.size w wr) (fun i _ => 64 - (intOf i).toNat)
    case atStart => exact ⟨0, Nat.zero_le _, rfl, rfl, hHP.out, hHB.out⟩
    case round =>
      obtain ⟨k, hk, rfl, he, hp, hbr⟩ := hrel
      have He := Lib.hid he
      clear he
      have h0 := hp.cell (i := 0) (by decide)
      have h78 := hp.cell (i := 78) (by decide)
      rw [show pk 0 = .u8 from rfl] at h0
      rw [hqt, show pk 78 = .u8 from rfl] at h78
      by_cases hlt : k < 64
      · cases hi : D.is q k 1 6
        · have Hi := Lib.hid (show D.is q k (K.oc 0) 6 = false from hi)
          go_wp2_with (first | ((with_reducible refine wp_load_box rfl _ rfl ?_); refine ⟨_, _, rfl, (by assumption), ?_⟩) | (go_at_call 187; refine (d8is_eq q k _ _ false _ Hc.out hlt hi).mono ?_; rintro e w2 ⟨rfl, hb2⟩; replace hp := hp.below hb2; replace hbr := below_next hbr hb2; clear hb2))
          refine ⟨⟨k + 1, by omega, by go_num, ?_, hp, hbr⟩, by simp [intOf]; omega⟩
          rw [He.out, D.near_no _ _ _ _ _ (by rw [Hi.out]; rfl) (by omega)]
          rfl
        · have Hi := Lib.hid (show D.is q k (K.oc 0) 6 = true from hi)
          cases hb : D.beside k s
          · go_wp2_with (first | ((with_reducible refine wp_load_box rfl _ rfl ?_); refine ⟨_, _, rfl, (by assumption), ?_⟩) | (go_at_call 187; refine (d8is_eq q k _ _ true _ Hc.out hlt hi).mono ?_; rintro e w2 ⟨rfl, hb2⟩; replace hp := hp.below hb2; replace hbr := below_next hbr hb2; clear hb2) | (go_at_call 60; refine (d8beside_eq k s false _ hlt hs hb).mono ?_; rintro e w' ⟨rfl, rfl⟩))
            refine ⟨⟨k + 1, by omega, by go_num, ?_, hp, hbr⟩, by simp [intOf]; omega⟩
            rw [He.out, D.near_no _ _ _ _ _ (by rw [Hi.out, hb]; rfl) (by omega)]
            rfl
          · go_wp2_with (first | ((with_reducible refine wp_load_box rfl _ rfl ?_); refine ⟨_, _, rfl, (by assumption), ?_⟩) | (go_at_call 187; refine (d8is_eq q k _ _ true _ Hc.out hlt hi).mono ?_; rintro e w2 ⟨rfl, hb2⟩; replace hp := hp.below hb2; replace hbr := below_next hbr hb2; clear hb2) | (go_at_call 60; refine (d8beside_eq k s true _ hlt hs hb).mono ?_; rintro e w' ⟨rfl, rfl⟩))
            go_ret
            refine ⟨ret_bool ?_, hbr⟩
            rw [ek.out, He.out, D.near_yes _ _ _ _ _ (by rw [Hi.out, hb]; rfl) (by omega)]
            rfl
      · obtain rfl : k = 64 := by omega
        go_wp2_with (first | ((with_reducible refine wp_load_box rfl _ rfl ?_); refine ⟨_, _, rfl, (by assumption), ?_⟩) | (go_at_call 231; refine (HB.out _).mono ?_; rintro e w2 ⟨rfl, hb2⟩; replace hp := hp.below hb2; replace hbr := below_next hbr hb2; clear hb2))
        go_ret
        refine ⟨ret_bool ?_, hbr⟩
        rw [ek.out, He.out]
        rfl
set_option maxRecDepth 100000 in
set_option maxHeartbeats 2000000 in
theorem d14safe_1 (q : Nat → Int) (s : Nat) (w : World) (hq : BdOk q) (hqt : q 78 = 1) (hs : s < 64) :
    Calls Tryz.prog 190 #[.agg (posC q), .int .i64 (s : Int)] w fun e w' => e = .returned (.bool (T.dsafe q 1 s)) ∧ Below w.heap.size w w' := by
  have Hc := Lib.hid hq
  clear hq
  have hHB := Lib.hid (show Below w.heap.size w (w.alloc (.cells (posC q) 31)) from (Below.refl _ _).alloc (Nat.le_refl _) _)
  have hHP := Lib.hid (PosAt.new w q)
  obtain ⟨v, hv⟩ : ∃ v, D.by' q (s : Int) 0 = v := ⟨_, rfl⟩
  obtain ⟨u, hu⟩ : ∃ u, (U v == 0) = u := ⟨_, rfl⟩
  have Hsafe := Lib.hid (show T.dsafe q 1 s = ((q 0 == 3 && D.near q 1 (s : Int) 0 64) || u) from by unfold T.dsafe; rw [← hu, ← hv]; rfl)
  have HB := Lib.hid (fun W => d8by_val q (s : Int) 0 v W Hc.out hv)
  clear hv
  cases hv3 : (q 0 == 3)
  · have e := Lib.hid (show T.dsafe q 1 s = u by rw [Hsafe.out, hv3]; rfl)
    go_enter Tryz.func190, Tryz.ntmps190
    go_wp2
    go_loopw [5] (fun i wr => i = .int .i64 0 ∧ PosAt wr w.heap.size q ∧ Below w.heap.size w wr) (fun _ _ => 0)
    case atStart => exact ⟨rfl, hHP.out, hHB.out⟩
    case round =>
      obtain ⟨rfl, hp, hbr⟩ := hrel
      have h0 := hp.cell (i := 0) (by decide)
      have h78 := hp.cell (i := 78) (by decide)
      rw [show pk 0 = .u8 from rfl] at h0
      rw [hqt, show pk 78 = .u8 from rfl] at h78
      go_wp2_with (first | ((with_reducible refine wp_load_box rfl _ rfl ?_); refine ⟨_, _, rfl, (by assumption), ?_⟩) | (go_at_call 231; refine (HB.out _).mono ?_; rintro e w2 ⟨rfl, hb2⟩; replace hp := hp.below hb2; replace hbr := below_next hbr hb2; clear hb2))
      go_ret
      exact ⟨ret_bool e.out.symm, hbr⟩
  · have ek := Lib.hid (show T.dsafe q 1 s = (D.near q 1 (s : Int) 0 64 || u) by rw [Hsafe.out, hv3]; rfl)
    go_enter Tryz.func190, Tryz.ntmps190
    go_wp2
    go_loopw [5] (fun i wr => ∃ k : Nat, k ≤ 64 ∧ i = .int .i64 (k : Int) ∧ D.near q 1 (s : Int) 0 64 = D.near q 1 (s : Int) k (64 - k) ∧ PosAt wr w.heap.size q ∧ Below w.heap.size w wr) (fun i _ => 64 - (intOf i).toNat)
    case atStart => exact ⟨0, Nat.zero_le _, rfl, rfl, hHP.out, hHB.out⟩
    case round =>
      obtain ⟨k, hk, rfl, he, hp, hbr⟩ := hrel
      have He := Lib.hid he
      clear he
      have h0 := hp.cell (i := 0) (by decide)
      have h78 := hp.cell (i := 78) (by decide)
      rw [show pk 0 = .u8 from rfl] at h0
      rw [hqt, show pk 78 = .u8 from rfl] at h78
      by_cases hlt : k < 64
      · cases hi : D.is q k 0 6
        · have Hi := Lib.hid (show D.is q k (K.oc 1) 6 = false from hi)
          go_wp2_with (first | ((with_reducible refine wp_load_box rfl _ rfl ?_); refine ⟨_, _, rfl, (by assumption), ?_⟩) | (go_at_call 187; refine (d8is_eq q k _ _ false _ Hc.out hlt hi).mono ?_; rintro e w2 ⟨rfl, hb2⟩; replace hp := hp.below hb2; replace hbr := below_next hbr hb2; clear hb2))
          refine ⟨⟨k + 1, by omega, by go_num, ?_, hp, hbr⟩, by simp [intOf]; omega⟩
          rw [He.out, D.near_no _ _ _ _ _ (by rw [Hi.out]; rfl) (by omega)]
          rfl
        · have Hi := Lib.hid (show D.is q k (K.oc 1) 6 = true from hi)
          cases hb : D.beside k s
          · go_wp2_with (first | ((with_reducible refine wp_load_box rfl _ rfl ?_); refine ⟨_, _, rfl, (by assumption), ?_⟩) | (go_at_call 187; refine (d8is_eq q k _ _ true _ Hc.out hlt hi).mono ?_; rintro e w2 ⟨rfl, hb2⟩; replace hp := hp.below hb2; replace hbr := below_next hbr hb2; clear hb2) | (go_at_call 60; refine (d8beside_eq k s false _ hlt hs hb).mono ?_; rintro e w' ⟨rfl, rfl⟩))
            refine ⟨⟨k + 1, by omega, by go_num, ?_, hp, hbr⟩, by simp [intOf]; omega⟩
            rw [He.out, D.near_no _ _ _ _ _ (by rw [Hi.out, hb]; rfl) (by omega)]
            rfl
          · go_wp2_with (first | ((with_reducible refine wp_load_box rfl _ rfl ?_); refine ⟨_, _, rfl, (by assumption), ?_⟩) | (go_at_call 187; refine (d8is_eq q k _ _ true _ Hc.out hlt hi).mono ?_; rintro e w2 ⟨rfl, hb2⟩; replace hp := hp.below hb2; replace hbr := below_next hbr hb2; clear hb2) | (go_at_call 60; refine (d8beside_eq k s true _ hlt hs hb).mono ?_; rintro e w' ⟨rfl, rfl⟩))
            go_ret
            refine ⟨ret_bool ?_, hbr⟩
            rw [ek.out, He.out, D.near_yes _ _ _ _ _ (by rw [Hi.out, hb]; rfl) (by omega)]
            rfl
      · obtain rfl : k = 64 := by omega
        go_wp2_with (first | ((with_reducible refine wp_load_box rfl _ rfl ?_); refine ⟨_, _, rfl, (by assumption), ?_⟩) | (go_at_call 231; refine (HB.out _).mono ?_; rintro e w2 ⟨rfl, hb2⟩; replace hp := hp.below hb2; replace hbr := below_next hbr hb2; clear hb2))
        go_ret
        refine ⟨ret_bool ?_, hbr⟩
        rw [ek.out, He.out]
        rfl
theorem d14safe_any (q : Nat → Int) (t s : Nat) (w : World) (hq : BdOk q) (ht : t < 2) (hqt : q 78 = (t : Int)) (hs : s < 64) :
    Calls Tryz.prog 190 #[.agg (posC q), .int .i64 (s : Int)] w fun e w' => e = .returned (.bool (T.dsafe q t s)) ∧ Below w.heap.size w w' := by
  rcases (show t = 0 ∨ t = 1 by omega) with rfl | rfl
  · exact d14safe_0 q s w hq hqt hs
  · exact d14safe_1 q s w hq hqt hs
end Go.Proofs.YtgkndhpolcnjbaaGreatDoor
