/- The document's answer of layer 13: May. -/
import Derived.Test.YtlphjjekamhnlaaDoorRef13b
namespace Go.Proofs.YtlphjjekamhnlaaDoor
open Go.RowKit Go.Sort

set_option maxRecDepth 100000 in
set_option maxHeartbeats 8000000 in
theorem d13may_any (c : Nat → Int) (t a b : Nat) (w : World) (hc : PosOk c) (ht : c 78 = (t : Int)) (ht1 : t ≤ 1) (ha : a < 64) (hb : b < 64) :
    Calls Tryd.prog 28 #[.agg (posC c), .int .i64 (a : Int), .int .i64 (b : Int)] w fun e w' => e = .returned (.bool (D.may c t a b)) ∧ Below w.heap.size w w' := by
  have hcb := pos_bd hc
  have hp := PosAt.new w c
  have hb0 : Below w.heap.size w (w.alloc (.cells (posC c) 31)) := (Below.refl _ _).alloc (Nat.le_refl _) _
  obtain ⟨W, hW⟩ : ∃ W, w.alloc (.cells (posC c) 31) = W := ⟨_, rfl⟩
  rw [hW] at hp hb0
  obtain ⟨v0, v1⟩ := pos_u8 hc (i := 0) (by decide) rfl
  obtain ⟨v, hv⟩ : ∃ v : Nat, c 0 = (v : Int) := ⟨(c 0).toNat, by omega⟩
  obtain ⟨y0, y1⟩ := hcb a ha
  have HM : Hid (D.may c t a b = (decide (a ≠ b) && (D.own c a (t : Int) && (!D.own c b (t : Int) &&
    (if P.kind (c (1 + a)) = 1 then D.pawn c t a b else if P.kind (c (1 + a)) = 6 then D.hits c a b && (decide (c 0 ≠ 3) || D.empty c b) else D.hits c a b))))) := Lib.hid rfl
  have HK : Hid (∀ w, Calls Tryd.prog 29 #[.int .u8 (c (1 + a))] w fun e w' => e = .returned (.int .u8 (P.kind (c (1 + a)))) ∧ w = w') := Lib.hid (fun w => d8kind_any _ w y0 y1)
  have HP : Hid (∀ w, Calls Tryd.prog 57 #[.agg (posC c), .int .i64 (a : Int), .int .i64 (b : Int)] w fun e w' => e = .returned (.bool (D.pawn c t a b)) ∧ Below w.heap.size w w') := Lib.hid (fun w => d13pawn_any c t a b w hc ht ht1 ha hb)
  have HHi : Hid (∀ w, Calls Tryd.prog 58 #[.agg (posC c), .int .i64 (a : Int), .int .i64 (b : Int)] w fun e w' => e = .returned (.bool (D.hits c a b)) ∧ Below w.heap.size w w') := Lib.hid (fun w => d8hits_any c a b w hcb ha hb)
  have HOa : Hid (∀ w, Calls Tryd.prog 56 #[.agg (posC c), .int .i64 (a : Int), .int .u8 (t : Int)] w fun e w' => e = .returned (.bool (D.own c a (t : Int))) ∧ Below w.heap.size w w') := Lib.hid (fun w => d13own_any c a _ w hcb ha)
  have HOb : Hid (∀ w, Calls Tryd.prog 56 #[.agg (posC c), .int .i64 (b : Int), .int .u8 (t : Int)] w fun e w' => e = .returned (.bool (D.own c b (t : Int))) ∧ Below w.heap.size w w') := Lib.hid (fun w => d13own_any c b _ w hcb hb)
  have HE : Hid (∀ w, Calls Tryd.prog 59 #[.agg (posC c), .int .i64 (b : Int)] w fun e w' => e = .returned (.bool (D.empty c b)) ∧ Below w.heap.size w w') := Lib.hid (fun w => d13empty_any c b w hcb hb)
  have HC : Hid (∀ w' : World, PosAt w' w.heap.size c → w'.cell? ⟨w.heap.size, 0, none⟩ = some (.int .u8 (v : Int)) ∧ w'.cell? ⟨w.heap.size, 78, none⟩ = some (.int .u8 (t : Int)) ∧ w'.cell? ⟨w.heap.size, 1 + a, none⟩ = some (.int .u8 (c (1 + a)))) := Lib.hid (fun w' hq => by
    have h0 := hq.cell (i := 0) (by decide)
    have h78 := hq.cell (i := 78) (by decide)
    rw [hv, show pk 0 = .u8 from rfl] at h0
    rw [ht, show pk 78 = .u8 from rfl] at h78
    exact ⟨h0, h78, bd_cell hq.heap a ha⟩)
  obtain ⟨k0, k78, ksq⟩ := HC.out W hp
  have HPo := Lib.hid hp
  have HB0 := Lib.hid hb0
  rw [hv] at HM
  obtain ⟨x, hx⟩ : ∃ x, c (1 + a) = x := ⟨_, rfl⟩
  have hM := HM.out
  rw [hx] at HK hM ksq HC
  generalize P.kind x = k at *
  generalize D.own c a (t : Int) = o1 at *
  generalize D.own c b (t : Int) = o2 at *
  generalize D.pawn c t a b = pw at *
  generalize D.hits c a b = x1 at *
  generalize D.empty c b = x4 at *
  clear hp hb0 hc hcb ht hv v0 v1 hx HM
  by_cases q : a = b
  · have d1 : ((a : Int) == (b : Int)) = true := by simp; omega
    have E := Lib.hid (show D.may c t a b = false by rw [hM]; simp [q])
    clear q hM
    go_enter Tryd.func28, Tryd.ntmps28
    go_wp2
    go_ret
    exact ⟨ret_bool E.out.symm, HB0.out⟩
  have d1 : ((a : Int) == (b : Int)) = false := by simp; omega
  rw [decide_eq_true q, Bool.true_and] at hM
  clear q
  cases o1
  · have E := Lib.hid hM
    clear hM
    go_enter Tryd.func28, Tryd.ntmps28
    go_wp2_with (first
      | ((with_reducible refine wp_load_box rfl _ rfl ?_); refine ⟨_, _, rfl, HPo.out, ?_⟩)
      | ((with_reducible refine wp_load_box_g rfl _ rfl ?_); refine ⟨_, _, rfl, HPo.out, ?_⟩)
      | (go_at_call 56; refine (HOa.out _).mono ?_; rintro e w1 ⟨rfl, hb1⟩))
    go_ret
    exact ⟨ret_bool E.out.symm, below_next HB0.out hb1⟩
  rw [Bool.true_and] at hM
  cases o2
  case true =>
    have E := Lib.hid hM
    clear hM
    go_enter Tryd.func28, Tryd.ntmps28
    go_wp2_with (first
      | ((with_reducible refine wp_load_box rfl _ rfl ?_); refine ⟨_, _, rfl, (by first | exact HPo.out | assumption), ?_⟩)
      | ((with_reducible refine wp_load_box_g rfl _ rfl ?_); refine ⟨_, _, rfl, (by first | exact HPo.out | assumption), ?_⟩)
      | (go_at_call 56; (with_reducible refine (HOa.out _).mono ?_); rintro e w1 ⟨rfl, hb1⟩; have hp1 := HPo.out.below hb1; obtain ⟨m0, m78, msq⟩ := HC.out _ hp1)
      | (go_at_call 56; (with_reducible refine (HOb.out _).mono ?_); rintro e w2 ⟨rfl, hb2⟩))
    go_ret
    exact ⟨ret_bool E.out.symm, below_next HB0.out (below_next hb1 hb2)⟩
  rw [Bool.not_false, Bool.true_and] at hM
  by_cases k1 : k = 1
  · have E := Lib.hid (hM.trans (if_pos k1))
    have d2 : (k == 1) = true := by simpa using k1
    clear hM k1
    go_enter Tryd.func28, Tryd.ntmps28
    go_wp2_with (first
      | ((with_reducible refine wp_load_box rfl _ rfl ?_); refine ⟨_, _, rfl, (by first | exact HPo.out | assumption), ?_⟩)
      | ((with_reducible refine wp_load_box_g rfl _ rfl ?_); refine ⟨_, _, rfl, (by first | exact HPo.out | assumption), ?_⟩)
      | (go_at_call 56; (with_reducible refine (HOa.out _).mono ?_); rintro e w1 ⟨rfl, hb1⟩; have hp1 := HPo.out.below hb1; obtain ⟨m0, m78, msq⟩ := HC.out _ hp1)
      | (go_at_call 56; (with_reducible refine (HOb.out _).mono ?_); rintro e w2 ⟨rfl, hb2⟩; replace hb1 := below_next hb1 hb2; have hp2 := hp1.below hb2; obtain ⟨n0, n78, nsq⟩ := HC.out _ hp2)
      | (go_at_call 29; refine (HK.out _).mono ?_; rintro e w' ⟨rfl, rfl⟩)
      | (go_at_call 57; refine (HP.out _).mono ?_; rintro e w3 ⟨rfl, hb3⟩; replace hb1 := below_next hb1 hb3))
    go_ret
    exact ⟨ret_bool E.out.symm, below_next HB0.out hb1⟩
  rw [if_neg k1] at hM
  have d2 : (k == 1) = false := by simpa using k1
  clear k1
  by_cases k6 : k = 6
  · rw [if_pos k6] at hM
    have d3 : (k == 6) = true := by simpa using k6
    clear k6
    cases x1
    · have E := Lib.hid hM
      clear hM
      go_enter Tryd.func28, Tryd.ntmps28
      go_wp2_with (first
        | ((with_reducible refine wp_load_box rfl _ rfl ?_); refine ⟨_, _, rfl, (by first | exact HPo.out | assumption), ?_⟩)
        | ((with_reducible refine wp_load_box_g rfl _ rfl ?_); refine ⟨_, _, rfl, (by first | exact HPo.out | assumption), ?_⟩)
        | (go_at_call 56; (with_reducible refine (HOa.out _).mono ?_); rintro e w1 ⟨rfl, hb1⟩; have hp1 := HPo.out.below hb1; obtain ⟨m0, m78, msq⟩ := HC.out _ hp1)
        | (go_at_call 56; (with_reducible refine (HOb.out _).mono ?_); rintro e w2 ⟨rfl, hb2⟩; replace hb1 := below_next hb1 hb2; have hp2 := hp1.below hb2; obtain ⟨n0, n78, nsq⟩ := HC.out _ hp2)
        | (go_at_call 29; refine (HK.out _).mono ?_; rintro e w' ⟨rfl, rfl⟩)
        | (go_at_call 58; refine (HHi.out _).mono ?_; rintro e w3 ⟨rfl, hb3⟩; replace hb1 := below_next hb1 hb3))
      go_ret
      exact ⟨ret_bool E.out.symm, below_next HB0.out hb1⟩
    · rw [Bool.true_and] at hM
      by_cases v3 : v = 3
      · have d4 : ((v : Int) != 3) = false := by simp; omega
        have E := Lib.hid (show D.may c t a b = x4 by rw [hM]; simp [v3])
        clear hM v3
        go_enter Tryd.func28, Tryd.ntmps28
        go_wp2_with (first
          | ((with_reducible refine wp_load_box rfl _ rfl ?_); refine ⟨_, _, rfl, (by first | exact HPo.out | assumption), ?_⟩)
          | ((with_reducible refine wp_load_box_g rfl _ rfl ?_); refine ⟨_, _, rfl, (by first | exact HPo.out | assumption), ?_⟩)
          | (go_at_call 56; (with_reducible refine (HOa.out _).mono ?_); rintro e w1 ⟨rfl, hb1⟩; have hp1 := HPo.out.below hb1; obtain ⟨m0, m78, msq⟩ := HC.out _ hp1)
          | (go_at_call 56; (with_reducible refine (HOb.out _).mono ?_); rintro e w2 ⟨rfl, hb2⟩; replace hb1 := below_next hb1 hb2; have hp2 := hp1.below hb2; obtain ⟨n0, n78, nsq⟩ := HC.out _ hp2)
          | (go_at_call 29; refine (HK.out _).mono ?_; rintro e w' ⟨rfl, rfl⟩)
          | (go_at_call 58; refine (HHi.out _).mono ?_; rintro e w3 ⟨rfl, hb3⟩; replace hb1 := below_next hb1 hb3; have hp3 := hp2.below hb3; obtain ⟨l0, l78, lsq⟩ := HC.out _ hp3)
          | (go_at_call 59; refine (HE.out _).mono ?_; rintro e w4 ⟨rfl, hb4⟩; replace hb1 := below_next hb1 hb4))
        go_ret
        exact ⟨ret_bool E.out.symm, below_next HB0.out hb1⟩
      · have d4 : ((v : Int) != 3) = true := by simp; omega
        have E := Lib.hid (show D.may c t a b = true by rw [hM]; simp; omega)
        clear hM v3
        go_enter Tryd.func28, Tryd.ntmps28
        go_wp2_with (first
          | ((with_reducible refine wp_load_box rfl _ rfl ?_); refine ⟨_, _, rfl, (by first | exact HPo.out | assumption), ?_⟩)
          | ((with_reducible refine wp_load_box_g rfl _ rfl ?_); refine ⟨_, _, rfl, (by first | exact HPo.out | assumption), ?_⟩)
          | (go_at_call 56; (with_reducible refine (HOa.out _).mono ?_); rintro e w1 ⟨rfl, hb1⟩; have hp1 := HPo.out.below hb1; obtain ⟨m0, m78, msq⟩ := HC.out _ hp1)
          | (go_at_call 56; (with_reducible refine (HOb.out _).mono ?_); rintro e w2 ⟨rfl, hb2⟩; replace hb1 := below_next hb1 hb2; have hp2 := hp1.below hb2; obtain ⟨n0, n78, nsq⟩ := HC.out _ hp2)
          | (go_at_call 29; refine (HK.out _).mono ?_; rintro e w' ⟨rfl, rfl⟩)
          | (go_at_call 58; refine (HHi.out _).mono ?_; rintro e w3 ⟨rfl, hb3⟩; replace hb1 := below_next hb1 hb3; have hp3 := hp2.below hb3; obtain ⟨l0, l78, lsq⟩ := HC.out _ hp3))
        go_ret
        exact ⟨ret_bool E.out.symm, below_next HB0.out hb1⟩
  · have E := Lib.hid (hM.trans (if_neg k6))
    have d3 : (k == 6) = false := by simpa using k6
    clear hM k6
    go_enter Tryd.func28, Tryd.ntmps28
    go_wp2_with (first
      | ((with_reducible refine wp_load_box rfl _ rfl ?_); refine ⟨_, _, rfl, (by first | exact HPo.out | assumption), ?_⟩)
      | ((with_reducible refine wp_load_box_g rfl _ rfl ?_); refine ⟨_, _, rfl, (by first | exact HPo.out | assumption), ?_⟩)
      | (go_at_call 56; (with_reducible refine (HOa.out _).mono ?_); rintro e w1 ⟨rfl, hb1⟩; have hp1 := HPo.out.below hb1; obtain ⟨m0, m78, msq⟩ := HC.out _ hp1)
      | (go_at_call 56; (with_reducible refine (HOb.out _).mono ?_); rintro e w2 ⟨rfl, hb2⟩; replace hb1 := below_next hb1 hb2; have hp2 := hp1.below hb2; obtain ⟨n0, n78, nsq⟩ := HC.out _ hp2)
      | (go_at_call 29; refine (HK.out _).mono ?_; rintro e w' ⟨rfl, rfl⟩)
      | (go_at_call 58; refine (HHi.out _).mono ?_; rintro e w3 ⟨rfl, hb3⟩; replace hb1 := below_next hb1 hb3))
    go_ret
    exact ⟨ret_bool E.out.symm, below_next HB0.out hb1⟩
end Go.Proofs.YtlphjjekamhnlaaDoor
