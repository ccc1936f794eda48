/- Several texts in one: CastW, CastWl, Law14c. -/

import Derived.Test.YtgkndhpolcnjbaaGreatDoorZz
import Derived.Test.YtgkndhpolcnjbaaGreatDoorZw
import Derived.Test.YtgkndhpolcnjbaaGreatDoorZa1
import Derived.Test.YtgkndhpolcnjbaaGreatDoorZd
namespace Go.Proofs.YtgkndhpolcnjbaaGreatDoor
open Go.RowKit Go.Sort
attribute [local go_sem] Oper.semAt_some
theorem within_eq (s a b : Int) (v : Bool) (w : World) (h : T.within s a b = v) : Calls Tryz.prog 189 #[.int .i64 s, .int .i64 a, .int .i64 b] w fun e w' => e = .returned (.bool v) ∧ w = w' := by
  rw [← h]; exact within_any s a b w
set_option maxRecDepth 100000 in
theorem d7castles_eq (v : Nat) (b : Bool) (w : World) (h : T.castles v = b) :
    Calls Tryz.prog 185 #[.int .u8 (v : Int)] w fun e w' => e = .returned (.bool b) ∧ w = w' := by
  by_cases h9 : v < 9
  · match v, h9 with
    | 0, _ | 1, _ | 2, _ | 3, _ | 4, _ | 5, _ | 6, _ | 7, _ | 8, _ =>
      go_enter Tryz.func185, Tryz.ntmps185
      go_wp2
      go_ret
      exact ⟨ret_bool (by rw [← h]; rfl), rfl⟩
  · have h8 : ¬ (v : Int) < 9 := by omega
    have hb : b = false := by rw [← h]; unfold T.castles; rw [decide_eq_false h8]; rfl
    clear h
    subst hb
    go_enter Tryz.func185, Tryz.ntmps185
    go_wp2
    go_ret
    exact ⟨rfl, rfl⟩
namespace T
def mayV : Option (Nat × Nat) → Value
  | none => .tuple #[.int .i64 0, .int .i64 0, .bool false]
  | some x => .tuple #[.int .i64 (x.1 : Int), .int .i64 (x.2 : Int), .bool true]
end T
set_option maxRecDepth 100000 in
set_option maxHeartbeats 2000000 in
theorem d14may_00 (c : Nat → Int) (w : World) (hc : PosOk c) (hct : c 78 = 0) :
    Calls Tryz.prog 116 #[.agg (posC c), .int .i64 0] w fun e w' => e = .returned (T.mayV (T.dMay c 0 0)) ∧ Below w.heap.size w w' := by
  have hcb := pos_bd hc
  have Hc := Lib.hid hcb
  have hb0 : Below w.heap.size w (w.alloc (.cells (posC c) 31)) := (Below.refl _ _).alloc (Nat.le_refl _) _
  have hp := PosAt.new w c
  obtain ⟨v0, v1⟩ := pos_u8 hc (i := 0) (by decide) rfl
  obtain ⟨v, hvv⟩ : ∃ v : Nat, c 0 = (v : Int) := ⟨(c 0).toNat, by omega⟩
  have h0 := hp.cell (i := 0) (by decide)
  rw [hvv, show pk 0 = .u8 from rfl] at h0
  have h78 := hp.cell (i := 78) (by decide)
  rw [hct, show pk 78 = .u8 from rfl] at h78
  obtain ⟨f0, f1⟩ := pos_i8 hc (i := 79) (by decide) rfl
  obtain ⟨F, hF⟩ : ∃ F : Int, c 79 = F := ⟨_, rfl⟩
  have hr := hp.cell (i := 79) (by decide)
  rw [hF, show pk 79 = .i8 from rfl] at hr
  rw [hF] at f0 f1
  have hwF : wrap64 F = F := IntWalk.wrap64_in _ ⟨by omega, by omega⟩
  obtain ⟨b, hcas⟩ : ∃ b, T.castles (v : Int) = b := ⟨_, rfl⟩
  have HV := Lib.hid hcas
  have hdm : T.dMay c 0 0 = if T.castles (c 0) = false then none
      else if D.find c 0 6 < 0 ∨ 0 + 7 < D.find c 0 6 ∨ F < 0 ∨ 7 < F then none
      else if D.is c (T.rk c 0 0) 0 4 = false ∨ (T.rk c 0 0 : Int) < D.find c 0 6 then none
      else if T.dfree c 0 0 (D.find c 0 6).toNat (T.rk c 0 0) 0 8 then some ((D.find c 0 6).toNat, T.rk c 0 0) else none := by
    unfold T.dMay
    rw [show T.rightAt 0 0 = 79 from rfl, hF]
    simp
  rw [hvv, hcas] at hdm
  cases b
  · have Hd := Lib.hid (hdm.trans (if_pos rfl))
    clear hdm hcas hvv
    go_enter Tryz.func116, Tryz.ntmps116
    go_wp2_with (first
      | ((with_reducible refine wp_load_box rfl _ rfl ?_); refine ⟨_, _, rfl, (by first | assumption | exact hp.alloc _), ?_⟩)
      | (go_at_call 185; refine (d7castles_eq v false _ HV.out).mono ?_; rintro e u ⟨rfl, rfl⟩))
    go_ret3
    exact ⟨by rw [Hd.out]; rfl, hb0⟩
  · rw [if_neg (by simp)] at hdm
    have hcell0 := hvv
    clear hcas hvv
    obtain ⟨K, hK⟩ : ∃ K : Int, D.find c 0 6 = K := ⟨_, rfl⟩
    have HF := Lib.hid (fun W => (show Calls Tryz.prog 186 #[.agg (posC c), .int .u8 0, .int .u8 6] W fun e w' => e = .returned (.int .i64 K) ∧ Below W.heap.size W w' by rw [← hK]; exact d8find_any c _ _ W Hc.out))
    have hKb : -1 ≤ K ∧ K < 64 := by rcases D.find_bd c 0 6 with h | ⟨j, hj, h⟩ <;> omega
    rw [hK] at hdm
    obtain ⟨K0, K1⟩ := hKb
    by_cases a1 : K < 0
    · have Hd := Lib.hid (hdm.trans (if_pos (.inl a1)))
      clear hdm hK
      go_enter Tryz.func116, Tryz.ntmps116
      go_wp2_with (first
        | ((with_reducible refine wp_load_box rfl _ rfl ?_); refine ⟨_, _, rfl, (by first | assumption | exact hp.alloc _), ?_⟩)
        | (go_at_call 185; refine (d7castles_eq v true _ HV.out).mono ?_; rintro e u ⟨rfl, rfl⟩)
        | (go_at_call 186; refine (HF.out _).mono ?_; rintro e u ⟨rfl, hb⟩; replace hp := hp.below hb; replace hb0 := below_next hb0 hb; clear hb; have h0 := hp.cell (i := 0) (by decide); rw [hcell0, show pk 0 = .u8 from rfl] at h0; have h78 := hp.cell (i := 78) (by decide); rw [hct, show pk 78 = .u8 from rfl] at h78; have h79 := hp.cell (i := 79) (by decide); rw [hF, show pk 79 = .i8 from rfl] at h79))
      go_ret3
      exact ⟨by rw [Hd.out]; rfl, hb0⟩
    · by_cases a2 : 7 < K
      · have Hd := Lib.hid (hdm.trans (if_pos (.inr (.inl a2))))
        clear hdm hK
        go_enter Tryz.func116, Tryz.ntmps116
        go_wp2_with (first
          | ((with_reducible refine wp_load_box rfl _ rfl ?_); refine ⟨_, _, rfl, (by first | assumption | exact hp.alloc _), ?_⟩)
          | (go_at_call 185; refine (d7castles_eq v true _ HV.out).mono ?_; rintro e u ⟨rfl, rfl⟩)
          | (go_at_call 186; refine (HF.out _).mono ?_; rintro e u ⟨rfl, hb⟩; replace hp := hp.below hb; replace hb0 := below_next hb0 hb; clear hb; have h0 := hp.cell (i := 0) (by decide); rw [hcell0, show pk 0 = .u8 from rfl] at h0; have h78 := hp.cell (i := 78) (by decide); rw [hct, show pk 78 = .u8 from rfl] at h78; have h79 := hp.cell (i := 79) (by decide); rw [hF, show pk 79 = .i8 from rfl] at h79))
        go_ret3
        exact ⟨by rw [Hd.out]; rfl, hb0⟩
      · by_cases a3 : F < 0
        · have Hd := Lib.hid (hdm.trans (if_pos (.inr (.inr (.inl a3)))))
          clear hdm hK
          go_enter Tryz.func116, Tryz.ntmps116
          go_wp2_with (first
            | ((with_reducible refine wp_load_box rfl _ rfl ?_); refine ⟨_, _, rfl, (by first | assumption | exact hp.alloc _), ?_⟩)
            | (go_at_call 185; refine (d7castles_eq v true _ HV.out).mono ?_; rintro e u ⟨rfl, rfl⟩)
            | (go_at_call 186; refine (HF.out _).mono ?_; rintro e u ⟨rfl, hb⟩; replace hp := hp.below hb; replace hb0 := below_next hb0 hb; clear hb; have h0 := hp.cell (i := 0) (by decide); rw [hcell0, show pk 0 = .u8 from rfl] at h0; have h78 := hp.cell (i := 78) (by decide); rw [hct, show pk 78 = .u8 from rfl] at h78; have h79 := hp.cell (i := 79) (by decide); rw [hF, show pk 79 = .i8 from rfl] at h79))
          go_ret3
          exact ⟨by rw [Hd.out]; rfl, hb0⟩
        · by_cases a4 : 7 < F
          · have Hd := Lib.hid (hdm.trans (if_pos (.inr (.inr (.inr a4)))))
            clear hdm hK
            go_enter Tryz.func116, Tryz.ntmps116
            go_wp2_with (first
              | ((with_reducible refine wp_load_box rfl _ rfl ?_); refine ⟨_, _, rfl, (by first | assumption | exact hp.alloc _), ?_⟩)
              | (go_at_call 185; refine (d7castles_eq v true _ HV.out).mono ?_; rintro e u ⟨rfl, rfl⟩)
              | (go_at_call 186; refine (HF.out _).mono ?_; rintro e u ⟨rfl, hb⟩; replace hp := hp.below hb; replace hb0 := below_next hb0 hb; clear hb; have h0 := hp.cell (i := 0) (by decide); rw [hcell0, show pk 0 = .u8 from rfl] at h0; have h78 := hp.cell (i := 78) (by decide); rw [hct, show pk 78 = .u8 from rfl] at h78; have h79 := hp.cell (i := 79) (by decide); rw [hF, show pk 79 = .i8 from rfl] at h79))
            go_ret3
            exact ⟨by rw [Hd.out]; rfl, hb0⟩
          · rw [if_neg (by omega)] at hdm
            obtain ⟨k, rfl⟩ : ∃ k : Nat, K = (k : Int) := ⟨K.toNat, by omega⟩
            obtain ⟨R, hR⟩ : ∃ R : Nat, T.rk c 0 0 = R := ⟨_, rfl⟩
            have hRF : 0 + F = (R : Int) := by rw [← hR]; unfold T.rk; rw [show T.rightAt 0 0 = 79 from rfl, hF]; omega
            rw [hR, Int.toNat_natCast] at hdm
            have hR64 : R < 64 := by omega
            obtain ⟨bI, hI⟩ : ∃ bI, D.is c R 0 4 = bI := ⟨_, rfl⟩
            have HI := Lib.hid (fun W => d8is_eq c R 0 4 bI W Hc.out hR64 hI)
            rw [hI] at hdm
            cases bI
            · have Hd := Lib.hid (hdm.trans (if_pos (.inl rfl)))
              clear hdm hK hI
              go_enter Tryz.func116, Tryz.ntmps116
              go_wp2_with (first
                | ((with_reducible refine wp_load_box rfl _ rfl ?_); refine ⟨_, _, rfl, (by first | assumption | exact hp.alloc _), ?_⟩)
                | (go_at_call 185; refine (d7castles_eq v true _ HV.out).mono ?_; rintro e u ⟨rfl, rfl⟩)
                | (go_at_call 186; refine (HF.out _).mono ?_; rintro e u ⟨rfl, hb⟩; replace hp := hp.below hb; replace hb0 := below_next hb0 hb; clear hb; have h0 := hp.cell (i := 0) (by decide); rw [hcell0, show pk 0 = .u8 from rfl] at h0; have h78 := hp.cell (i := 78) (by decide); rw [hct, show pk 78 = .u8 from rfl] at h78; have h79 := hp.cell (i := 79) (by decide); rw [hF, show pk 79 = .i8 from rfl] at h79)
                | (go_at_call 187; refine (HI.out _).mono ?_; rintro e u ⟨rfl, hb⟩; replace hp := hp.below hb; replace hb0 := below_next hb0 hb; clear hb; have h0 := hp.cell (i := 0) (by decide); rw [hcell0, show pk 0 = .u8 from rfl] at h0; have h78 := hp.cell (i := 78) (by decide); rw [hct, show pk 78 = .u8 from rfl] at h78; have h79 := hp.cell (i := 79) (by decide); rw [hF, show pk 79 = .i8 from rfl] at h79)
                | (go_at_call 188; refine (d14goals_any 0 _ (by decide)).mono ?_; rintro e u ⟨rfl, rfl⟩))
              go_ret3
              exact ⟨by rw [Hd.out]; rfl, hb0⟩
            · obtain ⟨cx, hcx⟩ : ∃ cx, decide ((R : Int) < (k : Int)) = cx := ⟨_, rfl⟩
              cases cx
              · rw [if_neg (show ¬ (true = false ∨ (R : Int) < (k : Int)) from by rintro (h | h); exact absurd h (by simp); exact absurd h (of_decide_eq_false hcx))] at hdm
                have hk64 : k < 64 := by omega
                have hi6 := (T.find_is c 0 (by omega)).1
                rw [hK, Int.toNat_natCast] at hi6
                have hRk : R ≠ k := fun e => by
                  rw [T.is_val hcb R hR64 _ _ (by omega) (by omega), beq_iff_eq] at hI
                  rw [T.is_val hcb k hk64 _ _ (by omega) (by omega), beq_iff_eq] at hi6
                  rw [e, hi6] at hI
                  omega
                have Hd := Lib.hid hdm
                have hcn : decide (R < k) = false := by rw [← hcx, Bool.eq_iff_iff]; simp
                clear hdm hK hI hi6 hcx
                go_enter Tryz.func116, Tryz.ntmps116
                go_wp2_with (first
                  | ((with_reducible refine wp_load_box rfl _ rfl ?_); refine ⟨_, _, rfl, (by first | assumption | exact hp.alloc _), ?_⟩)
                  | (go_at_call 185; refine (d7castles_eq v true _ HV.out).mono ?_; rintro e u ⟨rfl, rfl⟩)
                  | (go_at_call 186; refine (HF.out _).mono ?_; rintro e u ⟨rfl, hb⟩; replace hp := hp.below hb; replace hb0 := below_next hb0 hb; clear hb; have h0 := hp.cell (i := 0) (by decide); rw [hcell0, show pk 0 = .u8 from rfl] at h0; have h78 := hp.cell (i := 78) (by decide); rw [hct, show pk 78 = .u8 from rfl] at h78; have h79 := hp.cell (i := 79) (by decide); rw [hF, show pk 79 = .i8 from rfl] at h79)
                  | (go_at_call 187; refine (HI.out _).mono ?_; rintro e u ⟨rfl, hb⟩; replace hp := hp.below hb; replace hb0 := below_next hb0 hb; clear hb; have h0 := hp.cell (i := 0) (by decide); rw [hcell0, show pk 0 = .u8 from rfl] at h0; have h78 := hp.cell (i := 78) (by decide); rw [hct, show pk 78 = .u8 from rfl] at h78; have h79 := hp.cell (i := 79) (by decide); rw [hF, show pk 79 = .i8 from rfl] at h79)
                  | (go_at_call 188; refine (d14goals_any 0 _ (by decide)).mono ?_; rintro e u ⟨rfl, rfl⟩)
                  | ((with_reducible refine wp_store_box rfl _ _ rfl ?_); refine ⟨_, c, rfl, rfl, ⟨_, heap_alloc_new _ _, zero31_sizeC⟩, ?_⟩; intro V hV hq; have hne := hp.lt; replace hp := hV.pos (hp.alloc _) (by omega); replace hb0 := hV.below (hb0.alloc hb0.size _) hb0.size; clear hV)
                  | ((with_reducible refine wp_store_cell rfl _ _ _ rfl ?_); refine ⟨_, _, _, _, _, rfl, rfl, hq, (by omega), (by first | exact pk_board hk64 | exact pk_board hR64), Tryz.size_u8, ?_⟩; intro V hV hq2; replace hp := hV.pos hp (by omega); replace hb0 := hV.below hb0 (by omega); clear hV hq; have hq := hq2; clear hq2))
                have hqd : PosAt V _ (T.bare c k R) := hq
                have Hq0 := Lib.hid hqd
                have Hp0 := Lib.hid hp
                have Hb0 := Lib.hid hb0
                clear hq hqd hp hb0
                obtain ⟨G, hG⟩ : ∃ G, u.heap.size = G := ⟨_, rfl⟩
                rw [hG] at Hq0 ⊢
                have hqt : T.bare c k R 78 = (0 : Int) := by rw [T.bare_other c k R 78 (by omega) (by omega)]; exact hct
                have Hqb := Lib.hid (T.bare_bd c k R hcb)
                go_loopw [14] (fun i wr => ∃ s : Nat, 0 ≤ s ∧ s ≤ 0 + 8 ∧ i = .int .i64 (s : Int) ∧ T.dfree c 0 0 k R 0 8 = T.dfree c 0 0 k R s (0 + 8 - s) ∧ PosAt wr w.heap.size c ∧ PosAt wr G (T.bare c k R) ∧ Below w.heap.size w wr) (fun i _ => 0 + 8 - (intOf i).toNat)
                case atStart => exact ⟨0, by omega, by omega, rfl, rfl, Hp0.out, Hq0.out, Hb0.out⟩
                case round =>
                  obtain ⟨s, s0, s8, rfl, he, hp, hq, hbr⟩ := hrel
                  have He := Lib.hid he
                  clear he
                  by_cases hlt : s < 0 + 8
                  · have hs64 : s < 64 := by omega
                    have hIs : (s : Int) < 0 + 8 := by omega
                    have hIs2 : (s : Int) < 64 := by omega
                    have hcl := hq.bd hs64
                    obtain ⟨y0, y1⟩ := Hqb.out s hs64
                    have hnx : T.dfree c 0 0 k R s (0 + 8 - s) = (!T.dway c 0 0 k R s && T.dfree c 0 0 k R (s + 1) (0 + 8 - (s + 1))) := by
                      rw [show 0 + 8 - s = (0 + 8 - (s + 1)) + 1 by omega, T.dfree]
                    obtain ⟨kk, hkk⟩ : ∃ kk, P.kind (T.bare c k R (1 + s)) = kk := ⟨_, rfl⟩
                    obtain ⟨sf, hsf⟩ : ∃ sf, T.dsafe (T.bare c k R) 0 s = sf := ⟨_, rfl⟩
                    obtain ⟨kz, hkz⟩ : ∃ kz, (kk == 0) = kz := ⟨_, rfl⟩
                    obtain ⟨wa, hwa⟩ : ∃ wa, T.within (s : Int) (k : Int) 6 = wa := ⟨_, rfl⟩
                    obtain ⟨wb, hwb⟩ : ∃ wb, T.within (s : Int) (R : Int) 5 = wb := ⟨_, rfl⟩
                    have hdw : T.dway c 0 0 k R s = (((wa || wb) && !kz) || (wa && !sf)) := by
                      unfold T.dway
                      rw [show ((T.kg 0 0 : Nat) : Int) = 6 from rfl, show ((T.rg 0 0 : Nat) : Int) = 5 from rfl, hwa, hwb, hkk, hsf, ← hkz]
                      rfl
                    have HK := Lib.hid (fun W => d8kind_eq _ kk W y0 y1 hkk)
                    have HS := Lib.hid (fun W => (show Calls Tryz.prog 190 #[.agg (posC (T.bare c k R)), .int .i64 (s : Int)] W fun e w' => e = .returned (.bool sf) ∧ Below W.heap.size W w' by rw [← hsf]; exact d14safe_any _ 0 s W Hqb.out (by decide) hqt hs64))
                    rw [hdw] at hnx
                    have Hnx := Lib.hid hnx
                    clear hnx hdw hkk hsf
                    generalize T.bare c k R (1 + s) = x at *
                    have hkz' : (kk != 0) = !kz := by rw [← hkz]; rfl
                    cases wa
                    · cases wb
                      · go_wp2_with (first
                          | (go_at_call 189; refine (within_eq _ _ _ _ _ (by assumption)).mono ?_; rintro e u ⟨rfl, rfl⟩))
                        exact ⟨⟨s + 1, by omega, by omega, by go_num, by rw [He.out, Hnx.out]; rfl, hp, hq, hbr⟩, by simp [intOf]; omega⟩
                      · cases kz
                        · rw [Bool.not_false] at hkz'
                          go_wp2_with (first
                            | ((with_reducible refine wp_load_box rfl _ rfl ?_); refine ⟨_, _, rfl, (by assumption), ?_⟩)
                            | ((with_reducible refine wp_load_box_g rfl _ rfl ?_); refine ⟨_, _, rfl, (by assumption), ?_⟩)
                            | (go_at_call 189; refine (within_eq _ _ _ _ _ (by assumption)).mono ?_; rintro e u ⟨rfl, rfl⟩)
                            | (go_at_call 59; refine (HK.out _).mono ?_; rintro e u ⟨rfl, rfl⟩)
                            | (go_at_call 190; refine (HS.out _).mono ?_; rintro e u ⟨rfl, hb⟩; replace hp := hp.below hb; replace hq := hq.below hb; replace hbr := below_next hbr hb; clear hb))
                          go_ret3
                          exact ⟨by rw [Hd.out, He.out, Hnx.out]; cases sf <;> rfl, hbr⟩
                        · rw [Bool.not_true] at hkz'
                          go_wp2_with (first
                            | ((with_reducible refine wp_load_box rfl _ rfl ?_); refine ⟨_, _, rfl, (by assumption), ?_⟩)
                            | ((with_reducible refine wp_load_box_g rfl _ rfl ?_); refine ⟨_, _, rfl, (by assumption), ?_⟩)
                            | (go_at_call 189; refine (within_eq _ _ _ _ _ (by assumption)).mono ?_; rintro e u ⟨rfl, rfl⟩)
                            | (go_at_call 59; refine (HK.out _).mono ?_; rintro e u ⟨rfl, rfl⟩)
                            | (go_at_call 190; refine (HS.out _).mono ?_; rintro e u ⟨rfl, hb⟩; replace hp := hp.below hb; replace hq := hq.below hb; replace hbr := below_next hbr hb; clear hb))
                          exact ⟨⟨s + 1, by omega, by omega, by go_num, by rw [He.out, Hnx.out]; cases sf <;> rfl, hp, hq, hbr⟩, by simp [intOf]; omega⟩
                    · cases kz
                      · rw [Bool.not_false] at hkz'
                        go_wp2_with (first
                          | ((with_reducible refine wp_load_box rfl _ rfl ?_); refine ⟨_, _, rfl, (by assumption), ?_⟩)
                          | ((with_reducible refine wp_load_box_g rfl _ rfl ?_); refine ⟨_, _, rfl, (by assumption), ?_⟩)
                          | (go_at_call 189; refine (within_eq _ _ _ _ _ (by assumption)).mono ?_; rintro e u ⟨rfl, rfl⟩)
                          | (go_at_call 59; refine (HK.out _).mono ?_; rintro e u ⟨rfl, rfl⟩)
                          | (go_at_call 190; refine (HS.out _).mono ?_; rintro e u ⟨rfl, hb⟩; replace hp := hp.below hb; replace hq := hq.below hb; replace hbr := below_next hbr hb; clear hb))
                        go_ret3
                        exact ⟨by rw [Hd.out, He.out, Hnx.out]; cases wb <;> cases sf <;> rfl, hbr⟩
                      · cases sf
                        · rw [Bool.not_true] at hkz'
                          go_wp2_with (first
                            | ((with_reducible refine wp_load_box rfl _ rfl ?_); refine ⟨_, _, rfl, (by assumption), ?_⟩)
                            | ((with_reducible refine wp_load_box_g rfl _ rfl ?_); refine ⟨_, _, rfl, (by assumption), ?_⟩)
                            | (go_at_call 189; refine (within_eq _ _ _ _ _ (by assumption)).mono ?_; rintro e u ⟨rfl, rfl⟩)
                            | (go_at_call 59; refine (HK.out _).mono ?_; rintro e u ⟨rfl, rfl⟩)
                            | (go_at_call 190; refine (HS.out _).mono ?_; rintro e u ⟨rfl, hb⟩; replace hp := hp.below hb; replace hq := hq.below hb; replace hbr := below_next hbr hb; clear hb))
                          go_ret3
                          exact ⟨by rw [Hd.out, He.out, Hnx.out]; cases wb <;> rfl, hbr⟩
                        · rw [Bool.not_true] at hkz'
                          go_wp2_with (first
                            | ((with_reducible refine wp_load_box rfl _ rfl ?_); refine ⟨_, _, rfl, (by assumption), ?_⟩)
                            | ((with_reducible refine wp_load_box_g rfl _ rfl ?_); refine ⟨_, _, rfl, (by assumption), ?_⟩)
                            | (go_at_call 189; refine (within_eq _ _ _ _ _ (by assumption)).mono ?_; rintro e u ⟨rfl, rfl⟩)
                            | (go_at_call 59; refine (HK.out _).mono ?_; rintro e u ⟨rfl, rfl⟩)
                            | (go_at_call 190; refine (HS.out _).mono ?_; rintro e u ⟨rfl, hb⟩; replace hp := hp.below hb; replace hq := hq.below hb; replace hbr := below_next hbr hb; clear hb))
                          exact ⟨⟨s + 1, by omega, by omega, by go_num, by rw [He.out, Hnx.out]; cases wb <;> rfl, hp, hq, hbr⟩, by simp [intOf]; omega⟩
                  · obtain rfl : s = 0 + 8 := by omega
                    go_wp2
                    go_ret3
                    exact ⟨by rw [Hd.out, He.out]; rfl, hbr⟩
              · have Hd := Lib.hid (hdm.trans (if_pos (.inr (of_decide_eq_true hcx))))
                have hcn : decide (R < k) = true := by rw [← hcx, Bool.eq_iff_iff]; simp
                clear hdm hK hI hcx
                go_enter Tryz.func116, Tryz.ntmps116
                go_wp2_with (first
                  | ((with_reducible refine wp_load_box rfl _ rfl ?_); refine ⟨_, _, rfl, (by first | assumption | exact hp.alloc _), ?_⟩)
                  | (go_at_call 185; refine (d7castles_eq v true _ HV.out).mono ?_; rintro e u ⟨rfl, rfl⟩)
                  | (go_at_call 186; refine (HF.out _).mono ?_; rintro e u ⟨rfl, hb⟩; replace hp := hp.below hb; replace hb0 := below_next hb0 hb; clear hb; have h0 := hp.cell (i := 0) (by decide); rw [hcell0, show pk 0 = .u8 from rfl] at h0; have h78 := hp.cell (i := 78) (by decide); rw [hct, show pk 78 = .u8 from rfl] at h78; have h79 := hp.cell (i := 79) (by decide); rw [hF, show pk 79 = .i8 from rfl] at h79)
                  | (go_at_call 187; refine (HI.out _).mono ?_; rintro e u ⟨rfl, hb⟩; replace hp := hp.below hb; replace hb0 := below_next hb0 hb; clear hb; have h0 := hp.cell (i := 0) (by decide); rw [hcell0, show pk 0 = .u8 from rfl] at h0; have h78 := hp.cell (i := 78) (by decide); rw [hct, show pk 78 = .u8 from rfl] at h78; have h79 := hp.cell (i := 79) (by decide); rw [hF, show pk 79 = .i8 from rfl] at h79)
                  | (go_at_call 188; refine (d14goals_any 0 _ (by decide)).mono ?_; rintro e u ⟨rfl, rfl⟩))
                go_ret3
                exact ⟨by rw [Hd.out]; rfl, hb0⟩
set_option maxRecDepth 100000 in
set_option maxHeartbeats 2000000 in
theorem d14may_01 (c : Nat → Int) (w : World) (hc : PosOk c) (hct : c 78 = 0) :
    Calls Tryz.prog 116 #[.agg (posC c), .int .i64 1] w fun e w' => e = .returned (T.mayV (T.dMay c 0 1)) ∧ Below w.heap.size w w' := by
  have hcb := pos_bd hc
  have Hc := Lib.hid hcb
  have hb0 : Below w.heap.size w (w.alloc (.cells (posC c) 31)) := (Below.refl _ _).alloc (Nat.le_refl _) _
  have hp := PosAt.new w c
  obtain ⟨v0, v1⟩ := pos_u8 hc (i := 0) (by decide) rfl
  obtain ⟨v, hvv⟩ : ∃ v : Nat, c 0 = (v : Int) := ⟨(c 0).toNat, by omega⟩
  have h0 := hp.cell (i := 0) (by decide)
  rw [hvv, show pk 0 = .u8 from rfl] at h0
  have h78 := hp.cell (i := 78) (by decide)
  rw [hct, show pk 78 = .u8 from rfl] at h78
  obtain ⟨f0, f1⟩ := pos_i8 hc (i := 80) (by decide) rfl
  obtain ⟨F, hF⟩ : ∃ F : Int, c 80 = F := ⟨_, rfl⟩
  have hr := hp.cell (i := 80) (by decide)
  rw [hF, show pk 80 = .i8 from rfl] at hr
  rw [hF] at f0 f1
  have hwF : wrap64 F = F := IntWalk.wrap64_in _ ⟨by omega, by omega⟩
  obtain ⟨b, hcas⟩ : ∃ b, T.castles (v : Int) = b := ⟨_, rfl⟩
  have HV := Lib.hid hcas
  have hdm : T.dMay c 0 1 = if T.castles (c 0) = false then none
      else if D.find c 0 6 < 0 ∨ 0 + 7 < D.find c 0 6 ∨ F < 0 ∨ 7 < F then none
      else if D.is c (T.rk c 0 1) 0 4 = false ∨ D.find c 0 6 < (T.rk c 0 1 : Int) then none
      else if T.dfree c 0 1 (D.find c 0 6).toNat (T.rk c 0 1) 0 8 then some ((D.find c 0 6).toNat, T.rk c 0 1) else none := by
    unfold T.dMay
    rw [show T.rightAt 0 1 = 80 from rfl, hF]
    simp
  rw [hvv, hcas] at hdm
  cases b
  · have Hd := Lib.hid (hdm.trans (if_pos rfl))
    clear hdm hcas hvv
    go_enter Tryz.func116, Tryz.ntmps116
    go_wp2_with (first
      | ((with_reducible refine wp_load_box rfl _ rfl ?_); refine ⟨_, _, rfl, (by first | assumption | exact hp.alloc _), ?_⟩)
      | (go_at_call 185; refine (d7castles_eq v false _ HV.out).mono ?_; rintro e u ⟨rfl, rfl⟩))
    go_ret3
    exact ⟨by rw [Hd.out]; rfl, hb0⟩
  · rw [if_neg (by simp)] at hdm
    have hcell0 := hvv
    clear hcas hvv
    obtain ⟨K, hK⟩ : ∃ K : Int, D.find c 0 6 = K := ⟨_, rfl⟩
    have HF := Lib.hid (fun W => (show Calls Tryz.prog 186 #[.agg (posC c), .int .u8 0, .int .u8 6] W fun e w' => e = .returned (.int .i64 K) ∧ Below W.heap.size W w' by rw [← hK]; exact d8find_any c _ _ W Hc.out))
    have hKb : -1 ≤ K ∧ K < 64 := by rcases D.find_bd c 0 6 with h | ⟨j, hj, h⟩ <;> omega
    rw [hK] at hdm
    obtain ⟨K0, K1⟩ := hKb
    by_cases a1 : K < 0
    · have Hd := Lib.hid (hdm.trans (if_pos (.inl a1)))
      clear hdm hK
      go_enter Tryz.func116, Tryz.ntmps116
      go_wp2_with (first
        | ((with_reducible refine wp_load_box rfl _ rfl ?_); refine ⟨_, _, rfl, (by first | assumption | exact hp.alloc _), ?_⟩)
        | (go_at_call 185; refine (d7castles_eq v true _ HV.out).mono ?_; rintro e u ⟨rfl, rfl⟩)
        | (go_at_call 186; refine (HF.out _).mono ?_; rintro e u ⟨rfl, hb⟩; replace hp := hp.below hb; replace hb0 := below_next hb0 hb; clear hb; have h0 := hp.cell (i := 0) (by decide); rw [hcell0, show pk 0 = .u8 from rfl] at h0; have h78 := hp.cell (i := 78) (by decide); rw [hct, show pk 78 = .u8 from rfl] at h78; have h80 := hp.cell (i := 80) (by decide); rw [hF, show pk 80 = .i8 from rfl] at h80))
      go_ret3
      exact ⟨by rw [Hd.out]; rfl, hb0⟩
    · by_cases a2 : 7 < K
      · have Hd := Lib.hid (hdm.trans (if_pos (.inr (.inl a2))))
        clear hdm hK
        go_enter Tryz.func116, Tryz.ntmps116
        go_wp2_with (first
          | ((with_reducible refine wp_load_box rfl _ rfl ?_); refine ⟨_, _, rfl, (by first | assumption | exact hp.alloc _), ?_⟩)
          | (go_at_call 185; refine (d7castles_eq v true _ HV.out).mono ?_; rintro e u ⟨rfl, rfl⟩)
          | (go_at_call 186; refine (HF.out _).mono ?_; rintro e u ⟨rfl, hb⟩; replace hp := hp.below hb; replace hb0 := below_next hb0 hb; clear hb; have h0 := hp.cell (i := 0) (by decide); rw [hcell0, show pk 0 = .u8 from rfl] at h0; have h78 := hp.cell (i := 78) (by decide); rw [hct, show pk 78 = .u8 from rfl] at h78; have h80 := hp.cell (i := 80) (by decide); rw [hF, show pk 80 = .i8 from rfl] at h80))
        go_ret3
        exact ⟨by rw [Hd.out]; rfl, hb0⟩
      · by_cases a3 : F < 0
        · have Hd := Lib.hid (hdm.trans (if_pos (.inr (.inr (.inl a3)))))
          clear hdm hK
          go_enter Tryz.func116, Tryz.ntmps116
          go_wp2_with (first
            | ((with_reducible refine wp_load_box rfl _ rfl ?_); refine ⟨_, _, rfl, (by first | assumption | exact hp.alloc _), ?_⟩)
            | (go_at_call 185; refine (d7castles_eq v true _ HV.out).mono ?_; rintro e u ⟨rfl, rfl⟩)
            | (go_at_call 186; refine (HF.out _).mono ?_; rintro e u ⟨rfl, hb⟩; replace hp := hp.below hb; replace hb0 := below_next hb0 hb; clear hb; have h0 := hp.cell (i := 0) (by decide); rw [hcell0, show pk 0 = .u8 from rfl] at h0; have h78 := hp.cell (i := 78) (by decide); rw [hct, show pk 78 = .u8 from rfl] at h78; have h80 := hp.cell (i := 80) (by decide); rw [hF, show pk 80 = .i8 from rfl] at h80))
          go_ret3
          exact ⟨by rw [Hd.out]; rfl, hb0⟩
        · by_cases a4 : 7 < F
          · have Hd := Lib.hid (hdm.trans (if_pos (.inr (.inr (.inr a4)))))
            clear hdm hK
            go_enter Tryz.func116, Tryz.ntmps116
            go_wp2_with (first
              | ((with_reducible refine wp_load_box rfl _ rfl ?_); refine ⟨_, _, rfl, (by first | assumption | exact hp.alloc _), ?_⟩)
              | (go_at_call 185; refine (d7castles_eq v true _ HV.out).mono ?_; rintro e u ⟨rfl, rfl⟩)
              | (go_at_call 186; refine (HF.out _).mono ?_; rintro e u ⟨rfl, hb⟩; replace hp := hp.below hb; replace hb0 := below_next hb0 hb; clear hb; have h0 := hp.cell (i := 0) (by decide); rw [hcell0, show pk 0 = .u8 from rfl] at h0; have h78 := hp.cell (i := 78) (by decide); rw [hct, show pk 78 = .u8 from rfl] at h78; have h80 := hp.cell (i := 80) (by decide); rw [hF, show pk 80 = .i8 from rfl] at h80))
            go_ret3
            exact ⟨by rw [Hd.out]; rfl, hb0⟩
          · rw [if_neg (by omega)] at hdm
            obtain ⟨k, rfl⟩ : ∃ k : Nat, K = (k : Int) := ⟨K.toNat, by omega⟩
            obtain ⟨R, hR⟩ : ∃ R : Nat, T.rk c 0 1 = R := ⟨_, rfl⟩
            have hRF : 0 + F = (R : Int) := by rw [← hR]; unfold T.rk; rw [show T.rightAt 0 1 = 80 from rfl, hF]; omega
            rw [hR, Int.toNat_natCast] at hdm
            have hR64 : R < 64 := by omega
            obtain ⟨bI, hI⟩ : ∃ bI, D.is c R 0 4 = bI := ⟨_, rfl⟩
            have HI := Lib.hid (fun W => d8is_eq c R 0 4 bI W Hc.out hR64 hI)
            rw [hI] at hdm
            cases bI
            · have Hd := Lib.hid (hdm.trans (if_pos (.inl rfl)))
              clear hdm hK hI
              go_enter Tryz.func116, Tryz.ntmps116
              go_wp2_with (first
                | ((with_reducible refine wp_load_box rfl _ rfl ?_); refine ⟨_, _, rfl, (by first | assumption | exact hp.alloc _), ?_⟩)
                | (go_at_call 185; refine (d7castles_eq v true _ HV.out).mono ?_; rintro e u ⟨rfl, rfl⟩)
                | (go_at_call 186; refine (HF.out _).mono ?_; rintro e u ⟨rfl, hb⟩; replace hp := hp.below hb; replace hb0 := below_next hb0 hb; clear hb; have h0 := hp.cell (i := 0) (by decide); rw [hcell0, show pk 0 = .u8 from rfl] at h0; have h78 := hp.cell (i := 78) (by decide); rw [hct, show pk 78 = .u8 from rfl] at h78; have h80 := hp.cell (i := 80) (by decide); rw [hF, show pk 80 = .i8 from rfl] at h80)
                | (go_at_call 187; refine (HI.out _).mono ?_; rintro e u ⟨rfl, hb⟩; replace hp := hp.below hb; replace hb0 := below_next hb0 hb; clear hb; have h0 := hp.cell (i := 0) (by decide); rw [hcell0, show pk 0 = .u8 from rfl] at h0; have h78 := hp.cell (i := 78) (by decide); rw [hct, show pk 78 = .u8 from rfl] at h78; have h80 := hp.cell (i := 80) (by decide); rw [hF, show pk 80 = .i8 from rfl] at h80)
                | (go_at_call 188; refine (d14goals_any 1 _ (by decide)).mono ?_; rintro e u ⟨rfl, rfl⟩))
              go_ret3
              exact ⟨by rw [Hd.out]; rfl, hb0⟩
            · obtain ⟨cx, hcx⟩ : ∃ cx, decide ((k : Int) < (R : Int)) = cx := ⟨_, rfl⟩
              cases cx
              · rw [if_neg (show ¬ (true = false ∨ (k : Int) < (R : Int)) from by rintro (h | h); exact absurd h (by simp); exact absurd h (of_decide_eq_false hcx))] at hdm
                have hk64 : k < 64 := by omega
                have hi6 := (T.find_is c 0 (by omega)).1
                rw [hK, Int.toNat_natCast] at hi6
                have hRk : R ≠ k := fun e => by
                  rw [T.is_val hcb R hR64 _ _ (by omega) (by omega), beq_iff_eq] at hI
                  rw [T.is_val hcb k hk64 _ _ (by omega) (by omega), beq_iff_eq] at hi6
                  rw [e, hi6] at hI
                  omega
                have Hd := Lib.hid hdm
                have hcn : decide (k < R) = false := by rw [← hcx, Bool.eq_iff_iff]; simp
                clear hdm hK hI hi6 hcx
                go_enter Tryz.func116, Tryz.ntmps116
                go_wp2_with (first
                  | ((with_reducible refine wp_load_box rfl _ rfl ?_); refine ⟨_, _, rfl, (by first | assumption | exact hp.alloc _), ?_⟩)
                  | (go_at_call 185; refine (d7castles_eq v true _ HV.out).mono ?_; rintro e u ⟨rfl, rfl⟩)
                  | (go_at_call 186; refine (HF.out _).mono ?_; rintro e u ⟨rfl, hb⟩; replace hp := hp.below hb; replace hb0 := below_next hb0 hb; clear hb; have h0 := hp.cell (i := 0) (by decide); rw [hcell0, show pk 0 = .u8 from rfl] at h0; have h78 := hp.cell (i := 78) (by decide); rw [hct, show pk 78 = .u8 from rfl] at h78; have h80 := hp.cell (i := 80) (by decide); rw [hF, show pk 80 = .i8 from rfl] at h80)
                  | (go_at_call 187; refine (HI.out _).mono ?_; rintro e u ⟨rfl, hb⟩; replace hp := hp.below hb; replace hb0 := below_next hb0 hb; clear hb; have h0 := hp.cell (i := 0) (by decide); rw [hcell0, show pk 0 = .u8 from rfl] at h0; have h78 := hp.cell (i := 78) (by decide); rw [hct, show pk 78 = .u8 from rfl] at h78; have h80 := hp.cell (i := 80) (by decide); rw [hF, show pk 80 = .i8 from rfl] at h80)
                  | (go_at_call 188; refine (d14goals_any 1 _ (by decide)).mono ?_; rintro e u ⟨rfl, rfl⟩)
                  | ((with_reducible refine wp_store_box rfl _ _ rfl ?_); refine ⟨_, c, rfl, rfl, ⟨_, heap_alloc_new _ _, zero31_sizeC⟩, ?_⟩; intro V hV hq; have hne := hp.lt; replace hp := hV.pos (hp.alloc _) (by omega); replace hb0 := hV.below (hb0.alloc hb0.size _) hb0.size; clear hV)
                  | ((with_reducible refine wp_store_cell rfl _ _ _ rfl ?_); refine ⟨_, _, _, _, _, rfl, rfl, hq, (by omega), (by first | exact pk_board hk64 | exact pk_board hR64), Tryz.size_u8, ?_⟩; intro V hV hq2; replace hp := hV.pos hp (by omega); replace hb0 := hV.below hb0 (by omega); clear hV hq; have hq := hq2; clear hq2))
                have hqd : PosAt V _ (T.bare c k R) := hq
                have Hq0 := Lib.hid hqd
                have Hp0 := Lib.hid hp
                have Hb0 := Lib.hid hb0
                clear hq hqd hp hb0
                obtain ⟨G, hG⟩ : ∃ G, u.heap.size = G := ⟨_, rfl⟩
                rw [hG] at Hq0 ⊢
                have hqt : T.bare c k R 78 = (0 : Int) := by rw [T.bare_other c k R 78 (by omega) (by omega)]; exact hct
                have Hqb := Lib.hid (T.bare_bd c k R hcb)
                go_loopw [14] (fun i wr => ∃ s : Nat, 0 ≤ s ∧ s ≤ 0 + 8 ∧ i = .int .i64 (s : Int) ∧ T.dfree c 0 1 k R 0 8 = T.dfree c 0 1 k R s (0 + 8 - s) ∧ PosAt wr w.heap.size c ∧ PosAt wr G (T.bare c k R) ∧ Below w.heap.size w wr) (fun i _ => 0 + 8 - (intOf i).toNat)
                case atStart => exact ⟨0, by omega, by omega, rfl, rfl, Hp0.out, Hq0.out, Hb0.out⟩
                case round =>
                  obtain ⟨s, s0, s8, rfl, he, hp, hq, hbr⟩ := hrel
                  have He := Lib.hid he
                  clear he
                  by_cases hlt : s < 0 + 8
                  · have hs64 : s < 64 := by omega
                    have hIs : (s : Int) < 0 + 8 := by omega
                    have hIs2 : (s : Int) < 64 := by omega
                    have hcl := hq.bd hs64
                    obtain ⟨y0, y1⟩ := Hqb.out s hs64
                    have hnx : T.dfree c 0 1 k R s (0 + 8 - s) = (!T.dway c 0 1 k R s && T.dfree c 0 1 k R (s + 1) (0 + 8 - (s + 1))) := by
                      rw [show 0 + 8 - s = (0 + 8 - (s + 1)) + 1 by omega, T.dfree]
                    obtain ⟨kk, hkk⟩ : ∃ kk, P.kind (T.bare c k R (1 + s)) = kk := ⟨_, rfl⟩
                    obtain ⟨sf, hsf⟩ : ∃ sf, T.dsafe (T.bare c k R) 0 s = sf := ⟨_, rfl⟩
                    obtain ⟨kz, hkz⟩ : ∃ kz, (kk == 0) = kz := ⟨_, rfl⟩
                    obtain ⟨wa, hwa⟩ : ∃ wa, T.within (s : Int) (k : Int) 2 = wa := ⟨_, rfl⟩
                    obtain ⟨wb, hwb⟩ : ∃ wb, T.within (s : Int) (R : Int) 3 = wb := ⟨_, rfl⟩
                    have hdw : T.dway c 0 1 k R s = (((wa || wb) && !kz) || (wa && !sf)) := by
                      unfold T.dway
                      rw [show ((T.kg 0 1 : Nat) : Int) = 2 from rfl, show ((T.rg 0 1 : Nat) : Int) = 3 from rfl, hwa, hwb, hkk, hsf, ← hkz]
                      rfl
                    have HK := Lib.hid (fun W => d8kind_eq _ kk W y0 y1 hkk)
                    have HS := Lib.hid (fun W => (show Calls Tryz.prog 190 #[.agg (posC (T.bare c k R)), .int .i64 (s : Int)] W fun e w' => e = .returned (.bool sf) ∧ Below W.heap.size W w' by rw [← hsf]; exact d14safe_any _ 0 s W Hqb.out (by decide) hqt hs64))
                    rw [hdw] at hnx
                    have Hnx := Lib.hid hnx
                    clear hnx hdw hkk hsf
                    generalize T.bare c k R (1 + s) = x at *
                    have hkz' : (kk != 0) = !kz := by rw [← hkz]; rfl
                    cases wa
                    · cases wb
                      · go_wp2_with (first
                          | (go_at_call 189; refine (within_eq _ _ _ _ _ (by assumption)).mono ?_; rintro e u ⟨rfl, rfl⟩))
                        exact ⟨⟨s + 1, by omega, by omega, by go_num, by rw [He.out, Hnx.out]; rfl, hp, hq, hbr⟩, by simp [intOf]; omega⟩
                      · cases kz
                        · rw [Bool.not_false] at hkz'
                          go_wp2_with (first
                            | ((with_reducible refine wp_load_box rfl _ rfl ?_); refine ⟨_, _, rfl, (by assumption), ?_⟩)
                            | ((with_reducible refine wp_load_box_g rfl _ rfl ?_); refine ⟨_, _, rfl, (by assumption), ?_⟩)
                            | (go_at_call 189; refine (within_eq _ _ _ _ _ (by assumption)).mono ?_; rintro e u ⟨rfl, rfl⟩)
                            | (go_at_call 59; refine (HK.out _).mono ?_; rintro e u ⟨rfl, rfl⟩)
                            | (go_at_call 190; refine (HS.out _).mono ?_; rintro e u ⟨rfl, hb⟩; replace hp := hp.below hb; replace hq := hq.below hb; replace hbr := below_next hbr hb; clear hb))
                          go_ret3
                          exact ⟨by rw [Hd.out, He.out, Hnx.out]; cases sf <;> rfl, hbr⟩
                        · rw [Bool.not_true] at hkz'
                          go_wp2_with (first
                            | ((with_reducible refine wp_load_box rfl _ rfl ?_); refine ⟨_, _, rfl, (by assumption), ?_⟩)
                            | ((with_reducible refine wp_load_box_g rfl _ rfl ?_); refine ⟨_, _, rfl, (by assumption), ?_⟩)
                            | (go_at_call 189; refine (within_eq _ _ _ _ _ (by assumption)).mono ?_; rintro e u ⟨rfl, rfl⟩)
                            | (go_at_call 59; refine (HK.out _).mono ?_; rintro e u ⟨rfl, rfl⟩)
                            | (go_at_call 190; refine (HS.out _).mono ?_; rintro e u ⟨rfl, hb⟩; replace hp := hp.below hb; replace hq := hq.below hb; replace hbr := below_next hbr hb; clear hb))
                          exact ⟨⟨s + 1, by omega, by omega, by go_num, by rw [He.out, Hnx.out]; cases sf <;> rfl, hp, hq, hbr⟩, by simp [intOf]; omega⟩
                    · cases kz
                      · rw [Bool.not_false] at hkz'
                        go_wp2_with (first
                          | ((with_reducible refine wp_load_box rfl _ rfl ?_); refine ⟨_, _, rfl, (by assumption), ?_⟩)
                          | ((with_reducible refine wp_load_box_g rfl _ rfl ?_); refine ⟨_, _, rfl, (by assumption), ?_⟩)
                          | (go_at_call 189; refine (within_eq _ _ _ _ _ (by assumption)).mono ?_; rintro e u ⟨rfl, rfl⟩)
                          | (go_at_call 59; refine (HK.out _).mono ?_; rintro e u ⟨rfl, rfl⟩)
                          | (go_at_call 190; refine (HS.out _).mono ?_; rintro e u ⟨rfl, hb⟩; replace hp := hp.below hb; replace hq := hq.below hb; replace hbr := below_next hbr hb; clear hb))
                        go_ret3
                        exact ⟨by rw [Hd.out, He.out, Hnx.out]; cases wb <;> cases sf <;> rfl, hbr⟩
                      · cases sf
                        · rw [Bool.not_true] at hkz'
                          go_wp2_with (first
                            | ((with_reducible refine wp_load_box rfl _ rfl ?_); refine ⟨_, _, rfl, (by assumption), ?_⟩)
                            | ((with_reducible refine wp_load_box_g rfl _ rfl ?_); refine ⟨_, _, rfl, (by assumption), ?_⟩)
                            | (go_at_call 189; refine (within_eq _ _ _ _ _ (by assumption)).mono ?_; rintro e u ⟨rfl, rfl⟩)
                            | (go_at_call 59; refine (HK.out _).mono ?_; rintro e u ⟨rfl, rfl⟩)
                            | (go_at_call 190; refine (HS.out _).mono ?_; rintro e u ⟨rfl, hb⟩; replace hp := hp.below hb; replace hq := hq.below hb; replace hbr := below_next hbr hb; clear hb))
                          go_ret3
                          exact ⟨by rw [Hd.out, He.out, Hnx.out]; cases wb <;> rfl, hbr⟩
                        · rw [Bool.not_true] at hkz'
                          go_wp2_with (first
                            | ((with_reducible refine wp_load_box rfl _ rfl ?_); refine ⟨_, _, rfl, (by assumption), ?_⟩)
                            | ((with_reducible refine wp_load_box_g rfl _ rfl ?_); refine ⟨_, _, rfl, (by assumption), ?_⟩)
                            | (go_at_call 189; refine (within_eq _ _ _ _ _ (by assumption)).mono ?_; rintro e u ⟨rfl, rfl⟩)
                            | (go_at_call 59; refine (HK.out _).mono ?_; rintro e u ⟨rfl, rfl⟩)
                            | (go_at_call 190; refine (HS.out _).mono ?_; rintro e u ⟨rfl, hb⟩; replace hp := hp.below hb; replace hq := hq.below hb; replace hbr := below_next hbr hb; clear hb))
                          exact ⟨⟨s + 1, by omega, by omega, by go_num, by rw [He.out, Hnx.out]; cases wb <;> rfl, hp, hq, hbr⟩, by simp [intOf]; omega⟩
                  · obtain rfl : s = 0 + 8 := by omega
                    go_wp2
                    go_ret3
                    exact ⟨by rw [Hd.out, He.out]; rfl, hbr⟩
              · have Hd := Lib.hid (hdm.trans (if_pos (.inr (of_decide_eq_true hcx))))
                have hcn : decide (k < R) = true := by rw [← hcx, Bool.eq_iff_iff]; simp
                clear hdm hK hI hcx
                go_enter Tryz.func116, Tryz.ntmps116
                go_wp2_with (first
                  | ((with_reducible refine wp_load_box rfl _ rfl ?_); refine ⟨_, _, rfl, (by first | assumption | exact hp.alloc _), ?_⟩)
                  | (go_at_call 185; refine (d7castles_eq v true _ HV.out).mono ?_; rintro e u ⟨rfl, rfl⟩)
                  | (go_at_call 186; refine (HF.out _).mono ?_; rintro e u ⟨rfl, hb⟩; replace hp := hp.below hb; replace hb0 := below_next hb0 hb; clear hb; have h0 := hp.cell (i := 0) (by decide); rw [hcell0, show pk 0 = .u8 from rfl] at h0; have h78 := hp.cell (i := 78) (by decide); rw [hct, show pk 78 = .u8 from rfl] at h78; have h80 := hp.cell (i := 80) (by decide); rw [hF, show pk 80 = .i8 from rfl] at h80)
                  | (go_at_call 187; refine (HI.out _).mono ?_; rintro e u ⟨rfl, hb⟩; replace hp := hp.below hb; replace hb0 := below_next hb0 hb; clear hb; have h0 := hp.cell (i := 0) (by decide); rw [hcell0, show pk 0 = .u8 from rfl] at h0; have h78 := hp.cell (i := 78) (by decide); rw [hct, show pk 78 = .u8 from rfl] at h78; have h80 := hp.cell (i := 80) (by decide); rw [hF, show pk 80 = .i8 from rfl] at h80)
                  | (go_at_call 188; refine (d14goals_any 1 _ (by decide)).mono ?_; rintro e u ⟨rfl, rfl⟩))
                go_ret3
                exact ⟨by rw [Hd.out]; rfl, hb0⟩
set_option maxRecDepth 100000 in
set_option maxHeartbeats 2000000 in
theorem d14may_10 (c : Nat → Int) (w : World) (hc : PosOk c) (hct : c 78 = 1) :
    Calls Tryz.prog 116 #[.agg (posC c), .int .i64 0] w fun e w' => e = .returned (T.mayV (T.dMay c 1 0)) ∧ Below w.heap.size w w' := by
  have hcb := pos_bd hc
  have Hc := Lib.hid hcb
  have hb0 : Below w.heap.size w (w.alloc (.cells (posC c) 31)) := (Below.refl _ _).alloc (Nat.le_refl _) _
  have hp := PosAt.new w c
  obtain ⟨v0, v1⟩ := pos_u8 hc (i := 0) (by decide) rfl
  obtain ⟨v, hvv⟩ : ∃ v : Nat, c 0 = (v : Int) := ⟨(c 0).toNat, by omega⟩
  have h0 := hp.cell (i := 0) (by decide)
  rw [hvv, show pk 0 = .u8 from rfl] at h0
  have h78 := hp.cell (i := 78) (by decide)
  rw [hct, show pk 78 = .u8 from rfl] at h78
  obtain ⟨f0, f1⟩ := pos_i8 hc (i := 81) (by decide) rfl
  obtain ⟨F, hF⟩ : ∃ F : Int, c 81 = F := ⟨_, rfl⟩
  have hr := hp.cell (i := 81) (by decide)
  rw [hF, show pk 81 = .i8 from rfl] at hr
  rw [hF] at f0 f1
  have hwF : wrap64 F = F := IntWalk.wrap64_in _ ⟨by omega, by omega⟩
  obtain ⟨b, hcas⟩ : ∃ b, T.castles (v : Int) = b := ⟨_, rfl⟩
  have HV := Lib.hid hcas
  have hdm : T.dMay c 1 0 = if T.castles (c 0) = false then none
      else if D.find c 1 6 < 56 ∨ 56 + 7 < D.find c 1 6 ∨ F < 0 ∨ 7 < F then none
      else if D.is c (T.rk c 1 0) 1 4 = false ∨ (T.rk c 1 0 : Int) < D.find c 1 6 then none
      else if T.dfree c 1 0 (D.find c 1 6).toNat (T.rk c 1 0) 56 8 then some ((D.find c 1 6).toNat, T.rk c 1 0) else none := by
    unfold T.dMay
    rw [show T.rightAt 1 0 = 81 from rfl, hF]
    simp
  rw [hvv, hcas] at hdm
  cases b
  · have Hd := Lib.hid (hdm.trans (if_pos rfl))
    clear hdm hcas hvv
    go_enter Tryz.func116, Tryz.ntmps116
    go_wp2_with (first
      | ((with_reducible refine wp_load_box rfl _ rfl ?_); refine ⟨_, _, rfl, (by first | assumption | exact hp.alloc _), ?_⟩)
      | (go_at_call 185; refine (d7castles_eq v false _ HV.out).mono ?_; rintro e u ⟨rfl, rfl⟩))
    go_ret3
    exact ⟨by rw [Hd.out]; rfl, hb0⟩
  · rw [if_neg (by simp)] at hdm
    have hcell0 := hvv
    clear hcas hvv
    obtain ⟨K, hK⟩ : ∃ K : Int, D.find c 1 6 = K := ⟨_, rfl⟩
    have HF := Lib.hid (fun W => (show Calls Tryz.prog 186 #[.agg (posC c), .int .u8 1, .int .u8 6] W fun e w' => e = .returned (.int .i64 K) ∧ Below W.heap.size W w' by rw [← hK]; exact d8find_any c _ _ W Hc.out))
    have hKb : -1 ≤ K ∧ K < 64 := by rcases D.find_bd c 1 6 with h | ⟨j, hj, h⟩ <;> omega
    rw [hK] at hdm
    obtain ⟨K0, K1⟩ := hKb
    by_cases a1 : K < 56
    · have Hd := Lib.hid (hdm.trans (if_pos (.inl a1)))
      clear hdm hK
      go_enter Tryz.func116, Tryz.ntmps116
      go_wp2_with (first
        | ((with_reducible refine wp_load_box rfl _ rfl ?_); refine ⟨_, _, rfl, (by first | assumption | exact hp.alloc _), ?_⟩)
        | (go_at_call 185; refine (d7castles_eq v true _ HV.out).mono ?_; rintro e u ⟨rfl, rfl⟩)
        | (go_at_call 186; refine (HF.out _).mono ?_; rintro e u ⟨rfl, hb⟩; replace hp := hp.below hb; replace hb0 := below_next hb0 hb; clear hb; have h0 := hp.cell (i := 0) (by decide); rw [hcell0, show pk 0 = .u8 from rfl] at h0; have h78 := hp.cell (i := 78) (by decide); rw [hct, show pk 78 = .u8 from rfl] at h78; have h81 := hp.cell (i := 81) (by decide); rw [hF, show pk 81 = .i8 from rfl] at h81))
      go_ret3
      exact ⟨by rw [Hd.out]; rfl, hb0⟩
    · by_cases a2 : 63 < K
      · exact absurd K1 (by omega)
      · by_cases a3 : F < 0
        · have Hd := Lib.hid (hdm.trans (if_pos (.inr (.inr (.inl a3)))))
          clear hdm hK
          go_enter Tryz.func116, Tryz.ntmps116
          go_wp2_with (first
            | ((with_reducible refine wp_load_box rfl _ rfl ?_); refine ⟨_, _, rfl, (by first | assumption | exact hp.alloc _), ?_⟩)
            | (go_at_call 185; refine (d7castles_eq v true _ HV.out).mono ?_; rintro e u ⟨rfl, rfl⟩)
            | (go_at_call 186; refine (HF.out _).mono ?_; rintro e u ⟨rfl, hb⟩; replace hp := hp.below hb; replace hb0 := below_next hb0 hb; clear hb; have h0 := hp.cell (i := 0) (by decide); rw [hcell0, show pk 0 = .u8 from rfl] at h0; have h78 := hp.cell (i := 78) (by decide); rw [hct, show pk 78 = .u8 from rfl] at h78; have h81 := hp.cell (i := 81) (by decide); rw [hF, show pk 81 = .i8 from rfl] at h81))
          go_ret3
          exact ⟨by rw [Hd.out]; rfl, hb0⟩
        · by_cases a4 : 7 < F
          · have Hd := Lib.hid (hdm.trans (if_pos (.inr (.inr (.inr a4)))))
            clear hdm hK
            go_enter Tryz.func116, Tryz.ntmps116
            go_wp2_with (first
              | ((with_reducible refine wp_load_box rfl _ rfl ?_); refine ⟨_, _, rfl, (by first | assumption | exact hp.alloc _), ?_⟩)
              | (go_at_call 185; refine (d7castles_eq v true _ HV.out).mono ?_; rintro e u ⟨rfl, rfl⟩)
              | (go_at_call 186; refine (HF.out _).mono ?_; rintro e u ⟨rfl, hb⟩; replace hp := hp.below hb; replace hb0 := below_next hb0 hb; clear hb; have h0 := hp.cell (i := 0) (by decide); rw [hcell0, show pk 0 = .u8 from rfl] at h0; have h78 := hp.cell (i := 78) (by decide); rw [hct, show pk 78 = .u8 from rfl] at h78; have h81 := hp.cell (i := 81) (by decide); rw [hF, show pk 81 = .i8 from rfl] at h81))
            go_ret3
            exact ⟨by rw [Hd.out]; rfl, hb0⟩
          · rw [if_neg (by omega)] at hdm
            obtain ⟨k, rfl⟩ : ∃ k : Nat, K = (k : Int) := ⟨K.toNat, by omega⟩
            obtain ⟨R, hR⟩ : ∃ R : Nat, T.rk c 1 0 = R := ⟨_, rfl⟩
            have hRF : 56 + F = (R : Int) := by rw [← hR]; unfold T.rk; rw [show T.rightAt 1 0 = 81 from rfl, hF]; omega
            rw [hR, Int.toNat_natCast] at hdm
            have hR64 : R < 64 := by omega
            obtain ⟨bI, hI⟩ : ∃ bI, D.is c R 1 4 = bI := ⟨_, rfl⟩
            have HI := Lib.hid (fun W => d8is_eq c R 1 4 bI W Hc.out hR64 hI)
            rw [hI] at hdm
            cases bI
            · have Hd := Lib.hid (hdm.trans (if_pos (.inl rfl)))
              clear hdm hK hI
              go_enter Tryz.func116, Tryz.ntmps116
              go_wp2_with (first
                | ((with_reducible refine wp_load_box rfl _ rfl ?_); refine ⟨_, _, rfl, (by first | assumption | exact hp.alloc _), ?_⟩)
                | (go_at_call 185; refine (d7castles_eq v true _ HV.out).mono ?_; rintro e u ⟨rfl, rfl⟩)
                | (go_at_call 186; refine (HF.out _).mono ?_; rintro e u ⟨rfl, hb⟩; replace hp := hp.below hb; replace hb0 := below_next hb0 hb; clear hb; have h0 := hp.cell (i := 0) (by decide); rw [hcell0, show pk 0 = .u8 from rfl] at h0; have h78 := hp.cell (i := 78) (by decide); rw [hct, show pk 78 = .u8 from rfl] at h78; have h81 := hp.cell (i := 81) (by decide); rw [hF, show pk 81 = .i8 from rfl] at h81)
                | (go_at_call 187; refine (HI.out _).mono ?_; rintro e u ⟨rfl, hb⟩; replace hp := hp.below hb; replace hb0 := below_next hb0 hb; clear hb; have h0 := hp.cell (i := 0) (by decide); rw [hcell0, show pk 0 = .u8 from rfl] at h0; have h78 := hp.cell (i := 78) (by decide); rw [hct, show pk 78 = .u8 from rfl] at h78; have h81 := hp.cell (i := 81) (by decide); rw [hF, show pk 81 = .i8 from rfl] at h81)
                | (go_at_call 188; refine (d14goals_any 0 _ (by decide)).mono ?_; rintro e u ⟨rfl, rfl⟩))
              go_ret3
              exact ⟨by rw [Hd.out]; rfl, hb0⟩
            · obtain ⟨cx, hcx⟩ : ∃ cx, decide ((R : Int) < (k : Int)) = cx := ⟨_, rfl⟩
              cases cx
              · rw [if_neg (show ¬ (true = false ∨ (R : Int) < (k : Int)) from by rintro (h | h); exact absurd h (by simp); exact absurd h (of_decide_eq_false hcx))] at hdm
                have hk64 : k < 64 := by omega
                have hi6 := (T.find_is c 1 (by omega)).1
                rw [hK, Int.toNat_natCast] at hi6
                have hRk : R ≠ k := fun e => by
                  rw [T.is_val hcb R hR64 _ _ (by omega) (by omega), beq_iff_eq] at hI
                  rw [T.is_val hcb k hk64 _ _ (by omega) (by omega), beq_iff_eq] at hi6
                  rw [e, hi6] at hI
                  omega
                have Hd := Lib.hid hdm
                have hcn : decide (R < k) = false := by rw [← hcx, Bool.eq_iff_iff]; simp
                clear hdm hK hI hi6 hcx
                go_enter Tryz.func116, Tryz.ntmps116
                go_wp2_with (first
                  | ((with_reducible refine wp_load_box rfl _ rfl ?_); refine ⟨_, _, rfl, (by first | assumption | exact hp.alloc _), ?_⟩)
                  | (go_at_call 185; refine (d7castles_eq v true _ HV.out).mono ?_; rintro e u ⟨rfl, rfl⟩)
                  | (go_at_call 186; refine (HF.out _).mono ?_; rintro e u ⟨rfl, hb⟩; replace hp := hp.below hb; replace hb0 := below_next hb0 hb; clear hb; have h0 := hp.cell (i := 0) (by decide); rw [hcell0, show pk 0 = .u8 from rfl] at h0; have h78 := hp.cell (i := 78) (by decide); rw [hct, show pk 78 = .u8 from rfl] at h78; have h81 := hp.cell (i := 81) (by decide); rw [hF, show pk 81 = .i8 from rfl] at h81)
                  | (go_at_call 187; refine (HI.out _).mono ?_; rintro e u ⟨rfl, hb⟩; replace hp := hp.below hb; replace hb0 := below_next hb0 hb; clear hb; have h0 := hp.cell (i := 0) (by decide); rw [hcell0, show pk 0 = .u8 from rfl] at h0; have h78 := hp.cell (i := 78) (by decide); rw [hct, show pk 78 = .u8 from rfl] at h78; have h81 := hp.cell (i := 81) (by decide); rw [hF, show pk 81 = .i8 from rfl] at h81)
                  | (go_at_call 188; refine (d14goals_any 0 _ (by decide)).mono ?_; rintro e u ⟨rfl, rfl⟩)
                  | ((with_reducible refine wp_store_box rfl _ _ rfl ?_); refine ⟨_, c, rfl, rfl, ⟨_, heap_alloc_new _ _, zero31_sizeC⟩, ?_⟩; intro V hV hq; have hne := hp.lt; replace hp := hV.pos (hp.alloc _) (by omega); replace hb0 := hV.below (hb0.alloc hb0.size _) hb0.size; clear hV)
                  | ((with_reducible refine wp_store_cell rfl _ _ _ rfl ?_); refine ⟨_, _, _, _, _, rfl, rfl, hq, (by omega), (by first | exact pk_board hk64 | exact pk_board hR64), Tryz.size_u8, ?_⟩; intro V hV hq2; replace hp := hV.pos hp (by omega); replace hb0 := hV.below hb0 (by omega); clear hV hq; have hq := hq2; clear hq2))
                have hqd : PosAt V _ (T.bare c k R) := hq
                have Hq0 := Lib.hid hqd
                have Hp0 := Lib.hid hp
                have Hb0 := Lib.hid hb0
                clear hq hqd hp hb0
                obtain ⟨G, hG⟩ : ∃ G, u.heap.size = G := ⟨_, rfl⟩
                rw [hG] at Hq0 ⊢
                have hqt : T.bare c k R 78 = (1 : Int) := by rw [T.bare_other c k R 78 (by omega) (by omega)]; exact hct
                have Hqb := Lib.hid (T.bare_bd c k R hcb)
                go_loopw [14] (fun i wr => ∃ s : Nat, 56 ≤ s ∧ s ≤ 56 + 8 ∧ i = .int .i64 (s : Int) ∧ T.dfree c 1 0 k R 56 8 = T.dfree c 1 0 k R s (56 + 8 - s) ∧ PosAt wr w.heap.size c ∧ PosAt wr G (T.bare c k R) ∧ Below w.heap.size w wr) (fun i _ => 56 + 8 - (intOf i).toNat)
                case atStart => exact ⟨56, by omega, by omega, rfl, rfl, Hp0.out, Hq0.out, Hb0.out⟩
                case round =>
                  obtain ⟨s, s0, s8, rfl, he, hp, hq, hbr⟩ := hrel
                  have He := Lib.hid he
                  clear he
                  by_cases hlt : s < 56 + 8
                  · have hs64 : s < 64 := by omega
                    have hIs : (s : Int) < 56 + 8 := by omega
                    have hIs2 : (s : Int) < 64 := by omega
                    have hcl := hq.bd hs64
                    obtain ⟨y0, y1⟩ := Hqb.out s hs64
                    have hnx : T.dfree c 1 0 k R s (56 + 8 - s) = (!T.dway c 1 0 k R s && T.dfree c 1 0 k R (s + 1) (56 + 8 - (s + 1))) := by
                      rw [show 56 + 8 - s = (56 + 8 - (s + 1)) + 1 by omega, T.dfree]
                    obtain ⟨kk, hkk⟩ : ∃ kk, P.kind (T.bare c k R (1 + s)) = kk := ⟨_, rfl⟩
                    obtain ⟨sf, hsf⟩ : ∃ sf, T.dsafe (T.bare c k R) 1 s = sf := ⟨_, rfl⟩
                    obtain ⟨kz, hkz⟩ : ∃ kz, (kk == 0) = kz := ⟨_, rfl⟩
                    obtain ⟨wa, hwa⟩ : ∃ wa, T.within (s : Int) (k : Int) 62 = wa := ⟨_, rfl⟩
                    obtain ⟨wb, hwb⟩ : ∃ wb, T.within (s : Int) (R : Int) 61 = wb := ⟨_, rfl⟩
                    have hdw : T.dway c 1 0 k R s = (((wa || wb) && !kz) || (wa && !sf)) := by
                      unfold T.dway
                      rw [show ((T.kg 1 0 : Nat) : Int) = 62 from rfl, show ((T.rg 1 0 : Nat) : Int) = 61 from rfl, hwa, hwb, hkk, hsf, ← hkz]
                      rfl
                    have HK := Lib.hid (fun W => d8kind_eq _ kk W y0 y1 hkk)
                    have HS := Lib.hid (fun W => (show Calls Tryz.prog 190 #[.agg (posC (T.bare c k R)), .int .i64 (s : Int)] W fun e w' => e = .returned (.bool sf) ∧ Below W.heap.size W w' by rw [← hsf]; exact d14safe_any _ 1 s W Hqb.out (by decide) hqt hs64))
                    rw [hdw] at hnx
                    have Hnx := Lib.hid hnx
                    clear hnx hdw hkk hsf
                    generalize T.bare c k R (1 + s) = x at *
                    have hkz' : (kk != 0) = !kz := by rw [← hkz]; rfl
                    cases wa
                    · cases wb
                      · go_wp2_with (first
                          | (go_at_call 189; refine (within_eq _ _ _ _ _ (by assumption)).mono ?_; rintro e u ⟨rfl, rfl⟩))
                        exact ⟨⟨s + 1, by omega, by omega, by go_num, by rw [He.out, Hnx.out]; rfl, hp, hq, hbr⟩, by simp [intOf]; omega⟩
                      · cases kz
                        · rw [Bool.not_false] at hkz'
                          go_wp2_with (first
                            | ((with_reducible refine wp_load_box rfl _ rfl ?_); refine ⟨_, _, rfl, (by assumption), ?_⟩)
                            | ((with_reducible refine wp_load_box_g rfl _ rfl ?_); refine ⟨_, _, rfl, (by assumption), ?_⟩)
                            | (go_at_call 189; refine (within_eq _ _ _ _ _ (by assumption)).mono ?_; rintro e u ⟨rfl, rfl⟩)
                            | (go_at_call 59; refine (HK.out _).mono ?_; rintro e u ⟨rfl, rfl⟩)
                            | (go_at_call 190; refine (HS.out _).mono ?_; rintro e u ⟨rfl, hb⟩; replace hp := hp.below hb; replace hq := hq.below hb; replace hbr := below_next hbr hb; clear hb))
                          go_ret3
                          exact ⟨by rw [Hd.out, He.out, Hnx.out]; cases sf <;> rfl, hbr⟩
                        · rw [Bool.not_true] at hkz'
                          go_wp2_with (first
                            | ((with_reducible refine wp_load_box rfl _ rfl ?_); refine ⟨_, _, rfl, (by assumption), ?_⟩)
                            | ((with_reducible refine wp_load_box_g rfl _ rfl ?_); refine ⟨_, _, rfl, (by assumption), ?_⟩)
                            | (go_at_call 189; refine (within_eq _ _ _ _ _ (by assumption)).mono ?_; rintro e u ⟨rfl, rfl⟩)
                            | (go_at_call 59; refine (HK.out _).mono ?_; rintro e u ⟨rfl, rfl⟩)
                            | (go_at_call 190; refine (HS.out _).mono ?_; rintro e u ⟨rfl, hb⟩; replace hp := hp.below hb; replace hq := hq.below hb; replace hbr := below_next hbr hb; clear hb))
                          exact ⟨⟨s + 1, by omega, by omega, by go_num, by rw [He.out, Hnx.out]; cases sf <;> rfl, hp, hq, hbr⟩, by simp [intOf]; omega⟩
                    · cases kz
                      · rw [Bool.not_false] at hkz'
                        go_wp2_with (first
                          | ((with_reducible refine wp_load_box rfl _ rfl ?_); refine ⟨_, _, rfl, (by assumption), ?_⟩)
                          | ((with_reducible refine wp_load_box_g rfl _ rfl ?_); refine ⟨_, _, rfl, (by assumption), ?_⟩)
                          | (go_at_call 189; refine (within_eq _ _ _ _ _ (by assumption)).mono ?_; rintro e u ⟨rfl, rfl⟩)
                          | (go_at_call 59; refine (HK.out _).mono ?_; rintro e u ⟨rfl, rfl⟩)
                          | (go_at_call 190; refine (HS.out _).mono ?_; rintro e u ⟨rfl, hb⟩; replace hp := hp.below hb; replace hq := hq.below hb; replace hbr := below_next hbr hb; clear hb))
                        go_ret3
                        exact ⟨by rw [Hd.out, He.out, Hnx.out]; cases wb <;> cases sf <;> rfl, hbr⟩
                      · cases sf
                        · rw [Bool.not_true] at hkz'
                          go_wp2_with (first
                            | ((with_reducible refine wp_load_box rfl _ rfl ?_); refine ⟨_, _, rfl, (by assumption), ?_⟩)
                            | ((with_reducible refine wp_load_box_g rfl _ rfl ?_); refine ⟨_, _, rfl, (by assumption), ?_⟩)
                            | (go_at_call 189; refine (within_eq _ _ _ _ _ (by assumption)).mono ?_; rintro e u ⟨rfl, rfl⟩)
                            | (go_at_call 59; refine (HK.out _).mono ?_; rintro e u ⟨rfl, rfl⟩)
                            | (go_at_call 190; refine (HS.out _).mono ?_; rintro e u ⟨rfl, hb⟩; replace hp := hp.below hb; replace hq := hq.below hb; replace hbr := below_next hbr hb; clear hb))
                          go_ret3
                          exact ⟨by rw [Hd.out, He.out, Hnx.out]; cases wb <;> rfl, hbr⟩
                        · rw [Bool.not_true] at hkz'
                          go_wp2_with (first
                            | ((with_reducible refine wp_load_box rfl _ rfl ?_); refine ⟨_, _, rfl, (by assumption), ?_⟩)
                            | ((with_reducible refine wp_load_box_g rfl _ rfl ?_); refine ⟨_, _, rfl, (by assumption), ?_⟩)
                            | (go_at_call 189; refine (within_eq _ _ _ _ _ (by assumption)).mono ?_; rintro e u ⟨rfl, rfl⟩)
                            | (go_at_call 59; refine (HK.out _).mono ?_; rintro e u ⟨rfl, rfl⟩)
                            | (go_at_call 190; refine (HS.out _).mono ?_; rintro e u ⟨rfl, hb⟩; replace hp := hp.below hb; replace hq := hq.below hb; replace hbr := below_next hbr hb; clear hb))
                          exact ⟨⟨s + 1, by omega, by omega, by go_num, by rw [He.out, Hnx.out]; cases wb <;> rfl, hp, hq, hbr⟩, by simp [intOf]; omega⟩
                  · obtain rfl : s = 56 + 8 := by omega
                    go_wp2
                    go_ret3
                    exact ⟨by rw [Hd.out, He.out]; rfl, hbr⟩
              · have Hd := Lib.hid (hdm.trans (if_pos (.inr (of_decide_eq_true hcx))))
                have hcn : decide (R < k) = true := by rw [← hcx, Bool.eq_iff_iff]; simp
                clear hdm hK hI hcx
                go_enter Tryz.func116, Tryz.ntmps116
                go_wp2_with (first
                  | ((with_reducible refine wp_load_box rfl _ rfl ?_); refine ⟨_, _, rfl, (by first | assumption | exact hp.alloc _), ?_⟩)
                  | (go_at_call 185; refine (d7castles_eq v true _ HV.out).mono ?_; rintro e u ⟨rfl, rfl⟩)
                  | (go_at_call 186; refine (HF.out _).mono ?_; rintro e u ⟨rfl, hb⟩; replace hp := hp.below hb; replace hb0 := below_next hb0 hb; clear hb; have h0 := hp.cell (i := 0) (by decide); rw [hcell0, show pk 0 = .u8 from rfl] at h0; have h78 := hp.cell (i := 78) (by decide); rw [hct, show pk 78 = .u8 from rfl] at h78; have h81 := hp.cell (i := 81) (by decide); rw [hF, show pk 81 = .i8 from rfl] at h81)
                  | (go_at_call 187; refine (HI.out _).mono ?_; rintro e u ⟨rfl, hb⟩; replace hp := hp.below hb; replace hb0 := below_next hb0 hb; clear hb; have h0 := hp.cell (i := 0) (by decide); rw [hcell0, show pk 0 = .u8 from rfl] at h0; have h78 := hp.cell (i := 78) (by decide); rw [hct, show pk 78 = .u8 from rfl] at h78; have h81 := hp.cell (i := 81) (by decide); rw [hF, show pk 81 = .i8 from rfl] at h81)
                  | (go_at_call 188; refine (d14goals_any 0 _ (by decide)).mono ?_; rintro e u ⟨rfl, rfl⟩))
                go_ret3
                exact ⟨by rw [Hd.out]; rfl, hb0⟩
set_option maxRecDepth 100000 in
set_option maxHeartbeats 2000000 in
theorem d14may_11 (c : Nat → Int) (w : World) (hc : PosOk c) (hct : c 78 = 1) :
    Calls Tryz.prog 116 #[.agg (posC c), .int .i64 1] w fun e w' => e = .returned (T.mayV (T.dMay c 1 1)) ∧ Below w.heap.size w w' := by
  have hcb := pos_bd hc
  have Hc := Lib.hid hcb
  have hb0 : Below w.heap.size w (w.alloc (.cells (posC c) 31)) := (Below.refl _ _).alloc (Nat.le_refl _) _
  have hp := PosAt.new w c
  obtain ⟨v0, v1⟩ := pos_u8 hc (i := 0) (by decide) rfl
  obtain ⟨v, hvv⟩ : ∃ v : Nat, c 0 = (v : Int) := ⟨(c 0).toNat, by omega⟩
  have h0 := hp.cell (i := 0) (by decide)
  rw [hvv, show pk 0 = .u8 from rfl] at h0
  have h78 := hp.cell (i := 78) (by decide)
  rw [hct, show pk 78 = .u8 from rfl] at h78
  obtain ⟨f0, f1⟩ := pos_i8 hc (i := 82) (by decide) rfl
  obtain ⟨F, hF⟩ : ∃ F : Int, c 82 = F := ⟨_, rfl⟩
  have hr := hp.cell (i := 82) (by decide)
  rw [hF, show pk 82 = .i8 from rfl] at hr
  rw [hF] at f0 f1
  have hwF : wrap64 F = F := IntWalk.wrap64_in _ ⟨by omega, by omega⟩
  obtain ⟨b, hcas⟩ : ∃ b, T.castles (v : Int) = b := ⟨_, rfl⟩
  have HV := Lib.hid hcas
  have hdm : T.dMay c 1 1 = if T.castles (c 0) = false then none
      else if D.find c 1 6 < 56 ∨ 56 + 7 < D.find c 1 6 ∨ F < 0 ∨ 7 < F then none
      else if D.is c (T.rk c 1 1) 1 4 = false ∨ D.find c 1 6 < (T.rk c 1 1 : Int) then none
      else if T.dfree c 1 1 (D.find c 1 6).toNat (T.rk c 1 1) 56 8 then some ((D.find c 1 6).toNat, T.rk c 1 1) else none := by
    unfold T.dMay
    rw [show T.rightAt 1 1 = 82 from rfl, hF]
    simp
  rw [hvv, hcas] at hdm
  cases b
  · have Hd := Lib.hid (hdm.trans (if_pos rfl))
    clear hdm hcas hvv
    go_enter Tryz.func116, Tryz.ntmps116
    go_wp2_with (first
      | ((with_reducible refine wp_load_box rfl _ rfl ?_); refine ⟨_, _, rfl, (by first | assumption | exact hp.alloc _), ?_⟩)
      | (go_at_call 185; refine (d7castles_eq v false _ HV.out).mono ?_; rintro e u ⟨rfl, rfl⟩))
    go_ret3
    exact ⟨by rw [Hd.out]; rfl, hb0⟩
  · rw [if_neg (by simp)] at hdm
    have hcell0 := hvv
    clear hcas hvv
    obtain ⟨K, hK⟩ : ∃ K : Int, D.find c 1 6 = K := ⟨_, rfl⟩
    have HF := Lib.hid (fun W => (show Calls Tryz.prog 186 #[.agg (posC c), .int .u8 1, .int .u8 6] W fun e w' => e = .returned (.int .i64 K) ∧ Below W.heap.size W w' by rw [← hK]; exact d8find_any c _ _ W Hc.out))
    have hKb : -1 ≤ K ∧ K < 64 := by rcases D.find_bd c 1 6 with h | ⟨j, hj, h⟩ <;> omega
    rw [hK] at hdm
    obtain ⟨K0, K1⟩ := hKb
    by_cases a1 : K < 56
    · have Hd := Lib.hid (hdm.trans (if_pos (.inl a1)))
      clear hdm hK
      go_enter Tryz.func116, Tryz.ntmps116
      go_wp2_with (first
        | ((with_reducible refine wp_load_box rfl _ rfl ?_); refine ⟨_, _, rfl, (by first | assumption | exact hp.alloc _), ?_⟩)
        | (go_at_call 185; refine (d7castles_eq v true _ HV.out).mono ?_; rintro e u ⟨rfl, rfl⟩)
        | (go_at_call 186; refine (HF.out _).mono ?_; rintro e u ⟨rfl, hb⟩; replace hp := hp.below hb; replace hb0 := below_next hb0 hb; clear hb; have h0 := hp.cell (i := 0) (by decide); rw [hcell0, show pk 0 = .u8 from rfl] at h0; have h78 := hp.cell (i := 78) (by decide); rw [hct, show pk 78 = .u8 from rfl] at h78; have h82 := hp.cell (i := 82) (by decide); rw [hF, show pk 82 = .i8 from rfl] at h82))
      go_ret3
      exact ⟨by rw [Hd.out]; rfl, hb0⟩
    · by_cases a2 : 63 < K
      · exact absurd K1 (by omega)
      · by_cases a3 : F < 0
        · have Hd := Lib.hid (hdm.trans (if_pos (.inr (.inr (.inl a3)))))
          clear hdm hK
          go_enter Tryz.func116, Tryz.ntmps116
          go_wp2_with (first
            | ((with_reducible refine wp_load_box rfl _ rfl ?_); refine ⟨_, _, rfl, (by first | assumption | exact hp.alloc _), ?_⟩)
            | (go_at_call 185; refine (d7castles_eq v true _ HV.out).mono ?_; rintro e u ⟨rfl, rfl⟩)
            | (go_at_call 186; refine (HF.out _).mono ?_; rintro e u ⟨rfl, hb⟩; replace hp := hp.below hb; replace hb0 := below_next hb0 hb; clear hb; have h0 := hp.cell (i := 0) (by decide); rw [hcell0, show pk 0 = .u8 from rfl] at h0; have h78 := hp.cell (i := 78) (by decide); rw [hct, show pk 78 = .u8 from rfl] at h78; have h82 := hp.cell (i := 82) (by decide); rw [hF, show pk 82 = .i8 from rfl] at h82))
          go_ret3
          exact ⟨by rw [Hd.out]; rfl, hb0⟩
        · by_cases a4 : 7 < F
          · have Hd := Lib.hid (hdm.trans (if_pos (.inr (.inr (.inr a4)))))
            clear hdm hK
            go_enter Tryz.func116, Tryz.ntmps116
            go_wp2_with (first
              | ((with_reducible refine wp_load_box rfl _ rfl ?_); refine ⟨_, _, rfl, (by first | assumption | exact hp.alloc _), ?_⟩)
              | (go_at_call 185; refine (d7castles_eq v true _ HV.out).mono ?_; rintro e u ⟨rfl, rfl⟩)
              | (go_at_call 186; refine (HF.out _).mono ?_; rintro e u ⟨rfl, hb⟩; replace hp := hp.below hb; replace hb0 := below_next hb0 hb; clear hb; have h0 := hp.cell (i := 0) (by decide); rw [hcell0, show pk 0 = .u8 from rfl] at h0; have h78 := hp.cell (i := 78) (by decide); rw [hct, show pk 78 = .u8 from rfl] at h78; have h82 := hp.cell (i := 82) (by decide); rw [hF, show pk 82 = .i8 from rfl] at h82))
            go_ret3
            exact ⟨by rw [Hd.out]; rfl, hb0⟩
          · rw [if_neg (by omega)] at hdm
            obtain ⟨k, rfl⟩ : ∃ k : Nat, K = (k : Int) := ⟨K.toNat, by omega⟩
            obtain ⟨R, hR⟩ : ∃ R : Nat, T.rk c 1 1 = R := ⟨_, rfl⟩
            have hRF : 56 + F = (R : Int) := by rw [← hR]; unfold T.rk; rw [show T.rightAt 1 1 = 82 from rfl, hF]; omega
            rw [hR, Int.toNat_natCast] at hdm
            have hR64 : R < 64 := by omega
            obtain ⟨bI, hI⟩ : ∃ bI, D.is c R 1 4 = bI := ⟨_, rfl⟩
            have HI := Lib.hid (fun W => d8is_eq c R 1 4 bI W Hc.out hR64 hI)
            rw [hI] at hdm
            cases bI
            · have Hd := Lib.hid (hdm.trans (if_pos (.inl rfl)))
              clear hdm hK hI
              go_enter Tryz.func116, Tryz.ntmps116
              go_wp2_with (first
                | ((with_reducible refine wp_load_box rfl _ rfl ?_); refine ⟨_, _, rfl, (by first | assumption | exact hp.alloc _), ?_⟩)
                | (go_at_call 185; refine (d7castles_eq v true _ HV.out).mono ?_; rintro e u ⟨rfl, rfl⟩)
                | (go_at_call 186; refine (HF.out _).mono ?_; rintro e u ⟨rfl, hb⟩; replace hp := hp.below hb; replace hb0 := below_next hb0 hb; clear hb; have h0 := hp.cell (i := 0) (by decide); rw [hcell0, show pk 0 = .u8 from rfl] at h0; have h78 := hp.cell (i := 78) (by decide); rw [hct, show pk 78 = .u8 from rfl] at h78; have h82 := hp.cell (i := 82) (by decide); rw [hF, show pk 82 = .i8 from rfl] at h82)
                | (go_at_call 187; refine (HI.out _).mono ?_; rintro e u ⟨rfl, hb⟩; replace hp := hp.below hb; replace hb0 := below_next hb0 hb; clear hb; have h0 := hp.cell (i := 0) (by decide); rw [hcell0, show pk 0 = .u8 from rfl] at h0; have h78 := hp.cell (i := 78) (by decide); rw [hct, show pk 78 = .u8 from rfl] at h78; have h82 := hp.cell (i := 82) (by decide); rw [hF, show pk 82 = .i8 from rfl] at h82)
                | (go_at_call 188; refine (d14goals_any 1 _ (by decide)).mono ?_; rintro e u ⟨rfl, rfl⟩))
              go_ret3
              exact ⟨by rw [Hd.out]; rfl, hb0⟩
            · obtain ⟨cx, hcx⟩ : ∃ cx, decide ((k : Int) < (R : Int)) = cx := ⟨_, rfl⟩
              cases cx
              · rw [if_neg (show ¬ (true = false ∨ (k : Int) < (R : Int)) from by rintro (h | h); exact absurd h (by simp); exact absurd h (of_decide_eq_false hcx))] at hdm
                have hk64 : k < 64 := by omega
                have hi6 := (T.find_is c 1 (by omega)).1
                rw [hK, Int.toNat_natCast] at hi6
                have hRk : R ≠ k := fun e => by
                  rw [T.is_val hcb R hR64 _ _ (by omega) (by omega), beq_iff_eq] at hI
                  rw [T.is_val hcb k hk64 _ _ (by omega) (by omega), beq_iff_eq] at hi6
                  rw [e, hi6] at hI
                  omega
                have Hd := Lib.hid hdm
                have hcn : decide (k < R) = false := by rw [← hcx, Bool.eq_iff_iff]; simp
                clear hdm hK hI hi6 hcx
                go_enter Tryz.func116, Tryz.ntmps116
                go_wp2_with (first
                  | ((with_reducible refine wp_load_box rfl _ rfl ?_); refine ⟨_, _, rfl, (by first | assumption | exact hp.alloc _), ?_⟩)
                  | (go_at_call 185; refine (d7castles_eq v true _ HV.out).mono ?_; rintro e u ⟨rfl, rfl⟩)
                  | (go_at_call 186; refine (HF.out _).mono ?_; rintro e u ⟨rfl, hb⟩; replace hp := hp.below hb; replace hb0 := below_next hb0 hb; clear hb; have h0 := hp.cell (i := 0) (by decide); rw [hcell0, show pk 0 = .u8 from rfl] at h0; have h78 := hp.cell (i := 78) (by decide); rw [hct, show pk 78 = .u8 from rfl] at h78; have h82 := hp.cell (i := 82) (by decide); rw [hF, show pk 82 = .i8 from rfl] at h82)
                  | (go_at_call 187; refine (HI.out _).mono ?_; rintro e u ⟨rfl, hb⟩; replace hp := hp.below hb; replace hb0 := below_next hb0 hb; clear hb; have h0 := hp.cell (i := 0) (by decide); rw [hcell0, show pk 0 = .u8 from rfl] at h0; have h78 := hp.cell (i := 78) (by decide); rw [hct, show pk 78 = .u8 from rfl] at h78; have h82 := hp.cell (i := 82) (by decide); rw [hF, show pk 82 = .i8 from rfl] at h82)
                  | (go_at_call 188; refine (d14goals_any 1 _ (by decide)).mono ?_; rintro e u ⟨rfl, rfl⟩)
                  | ((with_reducible refine wp_store_box rfl _ _ rfl ?_); refine ⟨_, c, rfl, rfl, ⟨_, heap_alloc_new _ _, zero31_sizeC⟩, ?_⟩; intro V hV hq; have hne := hp.lt; replace hp := hV.pos (hp.alloc _) (by omega); replace hb0 := hV.below (hb0.alloc hb0.size _) hb0.size; clear hV)
                  | ((with_reducible refine wp_store_cell rfl _ _ _ rfl ?_); refine ⟨_, _, _, _, _, rfl, rfl, hq, (by omega), (by first | exact pk_board hk64 | exact pk_board hR64), Tryz.size_u8, ?_⟩; intro V hV hq2; replace hp := hV.pos hp (by omega); replace hb0 := hV.below hb0 (by omega); clear hV hq; have hq := hq2; clear hq2))
                have hqd : PosAt V _ (T.bare c k R) := hq
                have Hq0 := Lib.hid hqd
                have Hp0 := Lib.hid hp
                have Hb0 := Lib.hid hb0
                clear hq hqd hp hb0
                obtain ⟨G, hG⟩ : ∃ G, u.heap.size = G := ⟨_, rfl⟩
                rw [hG] at Hq0 ⊢
                have hqt : T.bare c k R 78 = (1 : Int) := by rw [T.bare_other c k R 78 (by omega) (by omega)]; exact hct
                have Hqb := Lib.hid (T.bare_bd c k R hcb)
                go_loopw [14] (fun i wr => ∃ s : Nat, 56 ≤ s ∧ s ≤ 56 + 8 ∧ i = .int .i64 (s : Int) ∧ T.dfree c 1 1 k R 56 8 = T.dfree c 1 1 k R s (56 + 8 - s) ∧ PosAt wr w.heap.size c ∧ PosAt wr G (T.bare c k R) ∧ Below w.heap.size w wr) (fun i _ => 56 + 8 - (intOf i).toNat)
                case atStart => exact ⟨56, by omega, by omega, rfl, rfl, Hp0.out, Hq0.out, Hb0.out⟩
                case round =>
                  obtain ⟨s, s0, s8, rfl, he, hp, hq, hbr⟩ := hrel
                  have He := Lib.hid he
                  clear he
                  by_cases hlt : s < 56 + 8
                  · have hs64 : s < 64 := by omega
                    have hIs : (s : Int) < 56 + 8 := by omega
                    have hIs2 : (s : Int) < 64 := by omega
                    have hcl := hq.bd hs64
                    obtain ⟨y0, y1⟩ := Hqb.out s hs64
                    have hnx : T.dfree c 1 1 k R s (56 + 8 - s) = (!T.dway c 1 1 k R s && T.dfree c 1 1 k R (s + 1) (56 + 8 - (s + 1))) := by
                      rw [show 56 + 8 - s = (56 + 8 - (s + 1)) + 1 by omega, T.dfree]
                    obtain ⟨kk, hkk⟩ : ∃ kk, P.kind (T.bare c k R (1 + s)) = kk := ⟨_, rfl⟩
                    obtain ⟨sf, hsf⟩ : ∃ sf, T.dsafe (T.bare c k R) 1 s = sf := ⟨_, rfl⟩
                    obtain ⟨kz, hkz⟩ : ∃ kz, (kk == 0) = kz := ⟨_, rfl⟩
                    obtain ⟨wa, hwa⟩ : ∃ wa, T.within (s : Int) (k : Int) 58 = wa := ⟨_, rfl⟩
                    obtain ⟨wb, hwb⟩ : ∃ wb, T.within (s : Int) (R : Int) 59 = wb := ⟨_, rfl⟩
                    have hdw : T.dway c 1 1 k R s = (((wa || wb) && !kz) || (wa && !sf)) := by
                      unfold T.dway
                      rw [show ((T.kg 1 1 : Nat) : Int) = 58 from rfl, show ((T.rg 1 1 : Nat) : Int) = 59 from rfl, hwa, hwb, hkk, hsf, ← hkz]
                      rfl
                    have HK := Lib.hid (fun W => d8kind_eq _ kk W y0 y1 hkk)
                    have HS := Lib.hid (fun W => (show Calls Tryz.prog 190 #[.agg (posC (T.bare c k R)), .int .i64 (s : Int)] W fun e w' => e = .returned (.bool sf) ∧ Below W.heap.size W w' by rw [← hsf]; exact d14safe_any _ 1 s W Hqb.out (by decide) hqt hs64))
                    rw [hdw] at hnx
                    have Hnx := Lib.hid hnx
                    clear hnx hdw hkk hsf
                    generalize T.bare c k R (1 + s) = x at *
                    have hkz' : (kk != 0) = !kz := by rw [← hkz]; rfl
                    cases wa
                    · cases wb
                      · go_wp2_with (first
                          | (go_at_call 189; refine (within_eq _ _ _ _ _ (by assumption)).mono ?_; rintro e u ⟨rfl, rfl⟩))
                        exact ⟨⟨s + 1, by omega, by omega, by go_num, by rw [He.out, Hnx.out]; rfl, hp, hq, hbr⟩, by simp [intOf]; omega⟩
                      · cases kz
                        · rw [Bool.not_false] at hkz'
                          go_wp2_with (first
                            | ((with_reducible refine wp_load_box rfl _ rfl ?_); refine ⟨_, _, rfl, (by assumption), ?_⟩)
                            | ((with_reducible refine wp_load_box_g rfl _ rfl ?_); refine ⟨_, _, rfl, (by assumption), ?_⟩)
                            | (go_at_call 189; refine (within_eq _ _ _ _ _ (by assumption)).mono ?_; rintro e u ⟨rfl, rfl⟩)
                            | (go_at_call 59; refine (HK.out _).mono ?_; rintro e u ⟨rfl, rfl⟩)
                            | (go_at_call 190; refine (HS.out _).mono ?_; rintro e u ⟨rfl, hb⟩; replace hp := hp.below hb; replace hq := hq.below hb; replace hbr := below_next hbr hb; clear hb))
                          go_ret3
                          exact ⟨by rw [Hd.out, He.out, Hnx.out]; cases sf <;> rfl, hbr⟩
                        · rw [Bool.not_true] at hkz'
                          go_wp2_with (first
                            | ((with_reducible refine wp_load_box rfl _ rfl ?_); refine ⟨_, _, rfl, (by assumption), ?_⟩)
                            | ((with_reducible refine wp_load_box_g rfl _ rfl ?_); refine ⟨_, _, rfl, (by assumption), ?_⟩)
                            | (go_at_call 189; refine (within_eq _ _ _ _ _ (by assumption)).mono ?_; rintro e u ⟨rfl, rfl⟩)
                            | (go_at_call 59; refine (HK.out _).mono ?_; rintro e u ⟨rfl, rfl⟩)
                            | (go_at_call 190; refine (HS.out _).mono ?_; rintro e u ⟨rfl, hb⟩; replace hp := hp.below hb; replace hq := hq.below hb; replace hbr := below_next hbr hb; clear hb))
                          exact ⟨⟨s + 1, by omega, by omega, by go_num, by rw [He.out, Hnx.out]; cases sf <;> rfl, hp, hq, hbr⟩, by simp [intOf]; omega⟩
                    · cases kz
                      · rw [Bool.not_false] at hkz'
                        go_wp2_with (first
                          | ((with_reducible refine wp_load_box rfl _ rfl ?_); refine ⟨_, _, rfl, (by assumption), ?_⟩)
                          | ((with_reducible refine wp_load_box_g rfl _ rfl ?_); refine ⟨_, _, rfl, (by assumption), ?_⟩)
                          | (go_at_call 189; refine (within_eq _ _ _ _ _ (by assumption)).mono ?_; rintro e u ⟨rfl, rfl⟩)
                          | (go_at_call 59; refine (HK.out _).mono ?_; rintro e u ⟨rfl, rfl⟩)
                          | (go_at_call 190; refine (HS.out _).mono ?_; rintro e u ⟨rfl, hb⟩; replace hp := hp.below hb; replace hq := hq.below hb; replace hbr := below_next hbr hb; clear hb))
                        go_ret3
                        exact ⟨by rw [Hd.out, He.out, Hnx.out]; cases wb <;> cases sf <;> rfl, hbr⟩
                      · cases sf
                        · rw [Bool.not_true] at hkz'
                          go_wp2_with (first
                            | ((with_reducible refine wp_load_box rfl _ rfl ?_); refine ⟨_, _, rfl, (by assumption), ?_⟩)
                            | ((with_reducible refine wp_load_box_g rfl _ rfl ?_); refine ⟨_, _, rfl, (by assumption), ?_⟩)
                            | (go_at_call 189; refine (within_eq _ _ _ _ _ (by assumption)).mono ?_; rintro e u ⟨rfl, rfl⟩)
                            | (go_at_call 59; refine (HK.out _).mono ?_; rintro e u ⟨rfl, rfl⟩)
                            | (go_at_call 190; refine (HS.out _).mono ?_; rintro e u ⟨rfl, hb⟩; replace hp := hp.below hb; replace hq := hq.below hb; replace hbr := below_next hbr hb; clear hb))
                          go_ret3
                          exact ⟨by rw [Hd.out, He.out, Hnx.out]; cases wb <;> rfl, hbr⟩
                        · rw [Bool.not_true] at hkz'
                          go_wp2_with (first
                            | ((with_reducible refine wp_load_box rfl _ rfl ?_); refine ⟨_, _, rfl, (by assumption), ?_⟩)
                            | ((with_reducible refine wp_load_box_g rfl _ rfl ?_); refine ⟨_, _, rfl, (by assumption), ?_⟩)
                            | (go_at_call 189; refine (within_eq _ _ _ _ _ (by assumption)).mono ?_; rintro e u ⟨rfl, rfl⟩)
                            | (go_at_call 59; refine (HK.out _).mono ?_; rintro e u ⟨rfl, rfl⟩)
                            | (go_at_call 190; refine (HS.out _).mono ?_; rintro e u ⟨rfl, hb⟩; replace hp := hp.below hb; replace hq := hq.below hb; replace hbr := below_next hbr hb; clear hb))
                          exact ⟨⟨s + 1, by omega, by omega, by go_num, by rw [He.out, Hnx.out]; cases wb <;> rfl, hp, hq, hbr⟩, by simp [intOf]; omega⟩
                  · obtain rfl : s = 56 + 8 := by omega
                    go_wp2
                    go_ret3
                    exact ⟨by rw [Hd.out, He.out]; rfl, hbr⟩
              · have Hd := Lib.hid (hdm.trans (if_pos (.inr (of_decide_eq_true hcx))))
                have hcn : decide (k < R) = true := by rw [← hcx, Bool.eq_iff_iff]; simp
                clear hdm hK hI hcx
                go_enter Tryz.func116, Tryz.ntmps116
                go_wp2_with (first
                  | ((with_reducible refine wp_load_box rfl _ rfl ?_); refine ⟨_, _, rfl, (by first | assumption | exact hp.alloc _), ?_⟩)
                  | (go_at_call 185; refine (d7castles_eq v true _ HV.out).mono ?_; rintro e u ⟨rfl, rfl⟩)
                  | (go_at_call 186; refine (HF.out _).mono ?_; rintro e u ⟨rfl, hb⟩; replace hp := hp.below hb; replace hb0 := below_next hb0 hb; clear hb; have h0 := hp.cell (i := 0) (by decide); rw [hcell0, show pk 0 = .u8 from rfl] at h0; have h78 := hp.cell (i := 78) (by decide); rw [hct, show pk 78 = .u8 from rfl] at h78; have h82 := hp.cell (i := 82) (by decide); rw [hF, show pk 82 = .i8 from rfl] at h82)
                  | (go_at_call 187; refine (HI.out _).mono ?_; rintro e u ⟨rfl, hb⟩; replace hp := hp.below hb; replace hb0 := below_next hb0 hb; clear hb; have h0 := hp.cell (i := 0) (by decide); rw [hcell0, show pk 0 = .u8 from rfl] at h0; have h78 := hp.cell (i := 78) (by decide); rw [hct, show pk 78 = .u8 from rfl] at h78; have h82 := hp.cell (i := 82) (by decide); rw [hF, show pk 82 = .i8 from rfl] at h82)
                  | (go_at_call 188; refine (d14goals_any 1 _ (by decide)).mono ?_; rintro e u ⟨rfl, rfl⟩))
                go_ret3
                exact ⟨by rw [Hd.out]; rfl, hb0⟩
end Go.Proofs.YtgkndhpolcnjbaaGreatDoor
namespace Go.Proofs.YtgkndhpolcnjbaaGreatDoor
open Go.RowKit Go.Sort
theorem d14may_any (c : Nat → Int) (t d : Nat) (w : World) (hc : PosOk c) (ht : t < 2) (hd : d < 2) (hct : c 78 = (t : Int)) :
    Calls Tryz.prog 116 #[.agg (posC c), .int .i64 (d : Int)] w fun e w' => e = .returned (T.mayV (T.dMay c t d)) ∧ Below w.heap.size w w' := by
  rcases (show t = 0 ∨ t = 1 by omega) with rfl | rfl <;> rcases (show d = 0 ∨ d = 1 by omega) with rfl | rfl
  · exact d14may_00 c w hc hct
  · exact d14may_01 c w hc hct
  · exact d14may_10 c w hc hct
  · exact d14may_11 c w hc hct
set_option maxRecDepth 100000 in
theorem d14may_out (c : Nat → Int) (d : Int) (w : World) (ht : 1 < c 78) :
    Calls Tryz.prog 116 #[.agg (posC c), .int .i64 d] w fun e w' => e = .returned (T.mayV none) ∧ Below w.heap.size w w' := by
  have hb0 : Below w.heap.size w (w.alloc (.cells (posC c) 31)) := (Below.refl _ _).alloc (Nat.le_refl _) _
  have hp := PosAt.new w c
  have h78 := hp.cell (i := 78) (by decide)
  rw [show pk 78 = .u8 from rfl] at h78
  go_enter Tryz.func116, Tryz.ntmps116
  go_wp2
  go_ret3
  exact ⟨rfl, hb0⟩
namespace T
/-- What the document tells of one side. -/
def dRes (c : Nat → Int) (d : Nat) : Option (Nat × Nat) := if c 78 ≤ 1 then dMay c (c 78).toNat d else none
def dOut (c : Nat → Int) : Nat → List (Nat × Nat)
  | 0 => []
  | n + 1 => dOut c n ++ (dRes c (1 - n)).toList
theorem dOut_two (c : Nat → Int) (h0 : 0 ≤ c 78) : dOut c 2 = dlist c := by
  unfold dOut dOut dOut dlist dRes
  by_cases h : c 78 ≤ 1
  · rw [if_pos h, if_pos h, if_pos ⟨h0, h⟩]
    simp only [List.filterMap_cons, List.filterMap_nil]
    cases dMay c (c 78).toNat (1 - 0) <;> cases dMay c (c 78).toNat (1 - 1) <;> rfl
  · rw [if_neg h, if_neg h, if_neg (fun k => h k.2)]; rfl
theorem dOut_len (c : Nat → Int) : ∀ n, (dOut c n).length ≤ n
  | 0 => Nat.le_refl _
  | n + 1 => by
    have := dOut_len c n
    rw [dOut, List.length_append]
    cases dRes c (1 - n) <;> simp <;> omega
theorem dRes_lt (c : Nat → Int) (d : Nat) (x : Nat × Nat) (h : dRes c d = some x) : x.1 < 64 ∧ x.2 < 64 := by
  unfold dRes at h
  split at h
  · unfold dMay at h
    split at h
    · cases h
    · split at h
      · cases h
      · split at h
        · cases h
        · split at h
          · cases h
            simp only
            unfold rk
            omega
          · cases h
  · cases h
end T
theorem d14may_res (c : Nat → Int) (d : Nat) (w : World) (hc : PosOk c) (hd : d < 2) :
    Calls Tryz.prog 116 #[.agg (posC c), .int .i64 (d : Int)] w fun e w' => e = .returned (T.mayV (T.dRes c d)) ∧ Below w.heap.size w w' := by
  obtain ⟨v0, v1⟩ := pos_u8 hc (i := 78) (by decide) rfl
  unfold T.dRes
  by_cases h : c 78 ≤ 1
  · rw [if_pos h]
    exact d14may_any c (c 78).toNat d w hc (by omega) hd (by omega)
  · rw [if_neg h]
    exact d14may_out c d w (by omega)
theorem d14may_val (c : Nat → Int) (d : Nat) (o : Option (Nat × Nat)) (w : World) (hc : PosOk c) (hd : d < 2) (h : T.dRes c d = o) :
    Calls Tryz.prog 116 #[.agg (posC c), .int .i64 (d : Int)] w fun e w' => e = .returned (T.mayV o) ∧ Below w.heap.size w w' := by
  rw [← h]; exact d14may_res c d w hc hd
set_option maxRecDepth 100000 in
set_option maxHeartbeats 2000000 in
theorem d14list_any (c : Nat → Int) (w : World) (hc : PosOk c) :
    Calls Tryz.prog 53 #[.agg (posC c)] w (T.End (T.dlist c) w) := by
  rw [← T.dOut_two c (pos_u8 hc (i := 78) (by decide) rfl).1]
  have hb0 : Below w.heap.size w (w.alloc (.cells (posC c) 31)) := (Below.refl _ _).alloc (Nat.le_refl _) _
  have hp := PosAt.new w c
  have HC := Lib.hid hc
  clear hc
  have H0 := Lib.hid (And.intro hp hb0)
  clear hp hb0
  go_enter Tryz.func53, Tryz.ntmps53
  go_wp2
  obtain ⟨i0, hi, hz0, hz1, hz2⟩ := info_parts Tryz.info_Move
  go_loopw [3, 4] (fun x i wr => ∃ n : Nat, n ≤ 2 ∧ i = .int .i64 (1 - (n : Int)) ∧ wr.ownsRow (w.heap.size + 1) 40 5 x (T.dOut c n).length (T.cells (T.dOut c n)) ∧ PosAt wr w.heap.size c ∧ Below w.heap.size w wr) (fun _ i _ => (intOf i + 1).toNat)
  case atStart => exact ⟨0, by omega, rfl, World.ownsRow_nil _ _ _ _, H0.out.1, H0.out.2⟩
  case round =>
    obtain ⟨n, hn, rfl, hown, hp, hbr⟩ := hrel
    rcases (show n = 0 ∨ n = 1 ∨ n = 2 by omega) with rfl | rfl | rfl
    · have hlen := T.dOut_len c 0
      obtain ⟨o, ho⟩ : ∃ o, T.dRes c 1 = o := ⟨_, rfl⟩
      have hst : T.dOut c (0 + 1) = T.dOut c 0 ++ o.toList := by rw [← ho]; rfl
      have hlt := fun x (hx : o = some x) => T.dRes_lt c 1 x (ho.trans hx)
      have HM := Lib.hid (fun W => d14may_val c 1 o W HC.out (by decide) ho)
      clear ho
      cases o with
      | none =>
        unfold T.mayV at HM
        go_wp2_with (first
          | ((with_reducible refine wp_load_box rfl _ rfl ?_); refine ⟨_, _, rfl, (by first | assumption | exact hp.alloc _), ?_⟩)
          | (go_at_call 116; refine (HM.out _).mono ?_; rintro e u1 ⟨rfl, hb⟩; replace hp := hp.below hb; replace hown := owns_below hown hb; replace hbr := below_next hbr hb; clear hb))
        exact ⟨⟨0 + 1, by omega, by rfl, by rw [hst]; simpa using hown, hp, hbr⟩, by simp [intOf]⟩
      | some x =>
        obtain ⟨k, s⟩ := x
        obtain ⟨hk, hs⟩ := hlt _ rfl
        simp only at hk hs
        have w8k : IntKind.i8.wrap (k : Int) = (k : Int) := by unfold IntKind.wrap; simp [IntKind.bits, IntKind.signed]; omega
        have w8s : IntKind.i8.wrap (s : Int) = (s : Int) := by unfold IntKind.wrap; simp [IntKind.bits, IntKind.signed]; omega
        unfold T.mayV at HM
        go_wp2_with (first
          | ((with_reducible refine wp_load_box rfl _ rfl ?_); refine ⟨_, _, rfl, (by first | assumption | exact hp.alloc _), ?_⟩)
          | (go_at_call 116; refine (HM.out _).mono ?_; rintro e u1 ⟨rfl, hb⟩; replace hp := hp.below hb; replace hown := owns_below hown hb; replace hbr := below_next hbr hb; clear hb; have hlp := hp.lt; have hgs := hbr.size)
          | (at_builtin; refine wpList_append_own _ rfl _ _ 33 rfl (w.heap.size + 1) 40 i0 (.agg #[.int .i8 0, .int .i8 0, .int .u8 0, .int .u8 0, .bool false]) 5 5 Tryz.underlying33 hi hz0 hz1 hz2 rfl (by decide) _ _ _ rfl (hown.alloc _) ⟨_, 0, none⟩ 1 1 (T.movL (k, s)) rfl rfl (row_add (RowAt.new u1 (T.movL (k, s)).toArray 40)) (by intro q hq; simp [T.movL] at hq; rcases hq with rfl | rfl | rfl | rfl <;> rfl) (by unfold maxLen; omega) (by omega) (by simp; omega) ?_; intro v' w1 hown' hgrow _))
        refine ⟨⟨0 + 1, by omega, by rfl, ?_, ?_, ?_⟩, by simp [intOf]⟩
        · rw [hst]
          show World.ownsRow _ _ _ _ _ (T.dOut c 0 ++ [(k, s)]).length (T.cells (T.dOut c 0 ++ [(k, s)]))
          rw [T.cells_snoc, List.length_append]; exact hown'
        · exact (hp.alloc _).grown hgrow (fun q hq => by have := (hown.lt q hq).1; omega)
        · exact (hbr.alloc hbr.size _).grown hgrow (by simp; omega) (fun q hq => by have := (hown.lt q hq).1; omega)
    · have hlen := T.dOut_len c 1
      obtain ⟨o, ho⟩ : ∃ o, T.dRes c 0 = o := ⟨_, rfl⟩
      have hst : T.dOut c (1 + 1) = T.dOut c 1 ++ o.toList := by rw [← ho]; rfl
      have hlt := fun x (hx : o = some x) => T.dRes_lt c 0 x (ho.trans hx)
      have HM := Lib.hid (fun W => d14may_val c 0 o W HC.out (by decide) ho)
      clear ho
      cases o with
      | none =>
        unfold T.mayV at HM
        go_wp2_with (first
          | ((with_reducible refine wp_load_box rfl _ rfl ?_); refine ⟨_, _, rfl, (by first | assumption | exact hp.alloc _), ?_⟩)
          | (go_at_call 116; refine (HM.out _).mono ?_; rintro e u1 ⟨rfl, hb⟩; replace hp := hp.below hb; replace hown := owns_below hown hb; replace hbr := below_next hbr hb; clear hb))
        exact ⟨⟨1 + 1, by omega, by rfl, by rw [hst]; simpa using hown, hp, hbr⟩, by simp [intOf]⟩
      | some x =>
        obtain ⟨k, s⟩ := x
        obtain ⟨hk, hs⟩ := hlt _ rfl
        simp only at hk hs
        have w8k : IntKind.i8.wrap (k : Int) = (k : Int) := by unfold IntKind.wrap; simp [IntKind.bits, IntKind.signed]; omega
        have w8s : IntKind.i8.wrap (s : Int) = (s : Int) := by unfold IntKind.wrap; simp [IntKind.bits, IntKind.signed]; omega
        unfold T.mayV at HM
        go_wp2_with (first
          | ((with_reducible refine wp_load_box rfl _ rfl ?_); refine ⟨_, _, rfl, (by first | assumption | exact hp.alloc _), ?_⟩)
          | (go_at_call 116; refine (HM.out _).mono ?_; rintro e u1 ⟨rfl, hb⟩; replace hp := hp.below hb; replace hown := owns_below hown hb; replace hbr := below_next hbr hb; clear hb; have hlp := hp.lt; have hgs := hbr.size)
          | (at_builtin; refine wpList_append_own _ rfl _ _ 33 rfl (w.heap.size + 1) 40 i0 (.agg #[.int .i8 0, .int .i8 0, .int .u8 0, .int .u8 0, .bool false]) 5 5 Tryz.underlying33 hi hz0 hz1 hz2 rfl (by decide) _ _ _ rfl (hown.alloc _) ⟨_, 0, none⟩ 1 1 (T.movL (k, s)) rfl rfl (row_add (RowAt.new u1 (T.movL (k, s)).toArray 40)) (by intro q hq; simp [T.movL] at hq; rcases hq with rfl | rfl | rfl | rfl <;> rfl) (by unfold maxLen; omega) (by omega) (by simp; omega) ?_; intro v' w1 hown' hgrow _))
        refine ⟨⟨1 + 1, by omega, by rfl, ?_, ?_, ?_⟩, by simp [intOf]⟩
        · rw [hst]
          show World.ownsRow _ _ _ _ _ (T.dOut c 1 ++ [(k, s)]).length (T.cells (T.dOut c 1 ++ [(k, s)]))
          rw [T.cells_snoc, List.length_append]; exact hown'
        · exact (hp.alloc _).grown hgrow (fun q hq => by have := (hown.lt q hq).1; omega)
        · exact (hbr.alloc hbr.size _).grown hgrow (by simp; omega) (fun q hq => by have := (hown.lt q hq).1; omega)
    · go_wp2
      go_ret
      exact ⟨_, rfl, hown, hbr⟩
end Go.Proofs.YtgkndhpolcnjbaaGreatDoor
namespace Go.Proofs.YtgkndhpolcnjbaaGreatDoor
open Go.RowKit Go.Sort
namespace T
def toMv (x : Nat × Nat) : Mv := ((x.1 : Int), (x.2 : Int), 0, 0, true)
theorem cells_mv (l : List (Nat × Nat)) : cells l = M.cells (l.map toMv) := by
  unfold cells M.cells
  rw [List.flatMap_map]
  rfl
theorem End.row {l : List (Nat × Nat)} {w w' : World} {e : Ending} (h : End l w e w') : ∃ v, e = .returned v ∧ w'.ownsRow (w.heap.size + 1) 40 5 v (l.map toMv).length (M.cells (l.map toMv)) ∧ Below w.heap.size w w' := by
  obtain ⟨v, rfl, h1, h2⟩ := h
  exact ⟨v, rfl, by rw [List.length_map, ← cells_mv]; exact h1, h2⟩
end T
theorem clist_row (c : Nat → Int) (l : List Mv) (w : World) (hc : PosOk c) (hT : Tb w) (h : (T.clist c).map T.toMv = l) :
    Calls Tryz.prog 50 #[.agg (posC c)] w fun e w' => ∃ v, e = .returned v ∧ w'.ownsRow (w.heap.size + 1) 40 5 v l.length (M.cells l) ∧ Below w.heap.size w w' := by
  rw [← h]; exact (clist_any c w hc hT).mono fun e w' hh => T.End.row hh
theorem d14list_row (c : Nat → Int) (l : List Mv) (w : World) (hc : PosOk c) (h : (T.clist c).map T.toMv = l) :
    Calls Tryz.prog 53 #[.agg (posC c)] w fun e w' => ∃ v, e = .returned v ∧ w'.ownsRow (w.heap.size + 1) 40 5 v l.length (M.cells l) ∧ Below w.heap.size w w' := by
  rw [← h, T.clist_eq c hc]; exact (d14list_any c w hc).mono fun e w' hh => T.End.row hh
end Go.Proofs.YtgkndhpolcnjbaaGreatDoor
