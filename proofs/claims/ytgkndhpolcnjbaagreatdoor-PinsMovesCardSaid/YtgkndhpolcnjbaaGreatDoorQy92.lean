/- Several texts in one: Law18m. -/
import Derived.Deep.CutRange
import Derived.Test.YtgkndhpolcnjbaaGreatDoorQy91
import Derived.Test.YtgkndhpolcnjbaaGreatDoorQy7
namespace Go.Proofs.YtgkndhpolcnjbaaGreatDoor
open Go.RowKit Go.Sort
namespace W
theorem _root_.Go.Proofs.YtgkndhpolcnjbaaGreatDoor.A.w_u (n : Nat) (h : n < 64) : IntKind.u64.wrap (n : Int) = (n : Int) := by rw [IntKind.wrap_u64]; omega
theorem stdP_ok {c : Nat → Int} (hc : PosOk c) : PosOk (stdP c) := by
  have t0 := (pos_u8 hc (i := 78) (by decide) rfl).1
  unfold stdP
  exact A.posOk_upd (A.posOk_upd hc 0 0 (by decide)) 78 _ (by rw [show pk 78 = .u8 from rfl]; exact A.wf8 (by omega) (by omega))
theorem stdP_one (c : Nat → Int) (hc : PosOk c) (T : Int) (hT : T = 0 ∨ T = 1) (h : stdOk c = true) : OneK (stdP c) T := fun i j hi hj h1 h2 => by
  have e : ∀ s, s < 64 → D.is (stdP c) s T 6 = true → isK c T s = true := fun s hs hh => by
    obtain ⟨x0, x1⟩ := pos_bd hc s hs
    unfold D.is at hh
    rw [stdP_at c s hs] at hh
    unfold isK
    rw [isK_is _ T x0 x1 hT]
    exact hh
  unfold stdOk at h
  simp only [Bool.and_eq_true, decide_eq_true_eq] at h
  have hk : kcnt c T 64 < 2 := by rcases hT with rfl | rfl; exact h.2.1; exact h.2.2.1
  rcases Nat.lt_trichotomy i j with hl | hl | hl
  · have := kcnt_two c T i j (e i hi h1) (e j hj h2) hl 64 (by omega)
    omega
  · exact hl
  · have := kcnt_two c T j i (e j hj h2) (e i hi h1) hl 64 (by omega)
    omega
theorem kind6 {x : Int} (h0 : 0 ≤ x) (h1 : x ≤ 255) (h : x % 8 ≠ 6) : P.kind x ≠ 6 := fun e => by
  rw [D.kind_of x h0 h1] at e
  split at e
  · cases e
  · exact h e
/-- What the law wants is what Well tells. -/
theorem want {q q' : Nat → Int} {T : Int} {F G k : Nat} {y : Int} {chk : Bool} (h : Sit q q' T F G k y) (hF : q (1 + F) % 8 ≠ 6) (hy : P.kind y ≠ 6) (h1 : OneK q T) (h0 : q' 0 = 0) (hc : K.check q' T = chk) :
    D.find q' T 6 = (k : Int) ∧ (!chk) = bit (bAnd (N.blocks q T) (N.line q (F : Int))) G := by
  obtain ⟨x0, x1⟩ := h.ok F h.F64
  have hf := h.find (kind6 x0 x1 hF) hy h1
  refine ⟨hf, ?_⟩
  have hT : T = 0 ∨ T = 1 := by have := h.T0; have := h.T1; omega
  have hk := check_std q' T k h.okq hT h0 h.k64 hf
  have hw := h.well
  rw [hc] at hk
  rw [bit_and, Bool.eq_iff_iff, Bool.not_eq_true', Bool.and_eq_true, ← hw]
  constructor
  · intro e a ha
    cases e2 : N.foe q' T k a
    · rfl
    · rw [hk.2 ⟨a, ha, e2⟩] at e; cases e
  · intro hn
    cases e : chk
    · rfl
    · obtain ⟨a, ha, e2⟩ := hk.1 e
      rw [hn a ha] at e2; cases e2
theorem row_at {w' : World} {base : Nat} {y : Value} {l : List Mv} (hown : w'.ownsRow base 40 5 y l.length (M.cells l)) :
    ∃ ao cap, y = .slice ao l.length cap ∧ l.length ≤ cap ∧ cap ≤ maxLen ∧ (0 < l.length → ∃ b, ao = some ⟨b, 0, none⟩ ∧ b < w'.heap.size ∧ ∀ i m, l[i]? = some m → M.At w' b (i * 5) m) := by
  obtain ⟨ao, cap, rfl, h1, h2, h3⟩ := M.row_open hown
  refine ⟨ao, cap, rfl, h1, h2, fun h => ?_⟩
  obtain ⟨b, rfl, _, hb, hc⟩ := h3 h
  exact ⟨b, rfl, hb, fun i m hm => M.at_of hc i m hm⟩
end W
set_option maxRecDepth 100000 in
set_option maxHeartbeats 8000000 in
theorem pinsMoves_walk (c : Nat → Int) (w : World) (hc : PosOk c) (hT : Tb w) :
    Calls Tryz.prog 6 #[.agg (posC c)] w fun e w' => e = .returned (.bool true) ∧ Below w.heap.size w w' := by
  have Hc := Lib.hid hc
  have Hq := Lib.hid (W.stdP_ok hc)
  have hb0 : Below w.heap.size w (w.alloc (.cells (posC c) 31)) := (Below.refl _ _).alloc (Nat.le_refl _) _
  have HT := Lib.hid (fun W (hb : Below w.heap.size w W) => tb_below hT hb)
  have hp := PosAt.new w c
  obtain ⟨tt0, _⟩ := pos_u8 hc (i := 78) (by decide) rfl
  obtain ⟨t, ht, ht1⟩ : ∃ t : Nat, stdP c 78 = (t : Int) ∧ t ≤ 1 := ⟨(c 78 % 2).toNat, by unfold stdP; rw [upd_same]; omega, by omega⟩
  have HC : Hid (∀ W, PosAt W w.heap.size (stdP c) → W.cell? ⟨w.heap.size, 78, none⟩ = some (.int .u8 (t : Int)) ∧ ∀ s, s < 64 → W.cell? ⟨w.heap.size, 1 + s, none⟩ = some (.int .u8 (stdP c (1 + s)))) := Lib.hid (fun W hp => by
    have h2 := hp.cell (i := 78) (by decide)
    rw [ht, show pk 78 = .u8 from rfl] at h2
    exact ⟨h2, fun s hs => bd_cell hp.heap s hs⟩)
  have HTT := Lib.hid (And.intro ht ht1)
  clear hT hc tt0 ht ht1
  cases hok : stdOk c
  · have Hok := Lib.hid hok
    clear hok
    go_enter Tryz.func6, Tryz.ntmps6
    go_wp2_with (first
      | ((with_reducible refine wp_load_box rfl _ rfl ?_); refine ⟨_, _, rfl, (by assumption), ?_⟩)
      | ((with_reducible refine wp_store_box rfl _ _ rfl ?_); refine ⟨_, stdP c, rfl, rfl, ⟨_, hp.heap, posC_size _⟩, ?_⟩; intro V hV hp2; replace hb0 := hV.below hb0 (by omega); clear hV hp; have hp := hp2; clear hp2)
      | (go_at_call 22; refine (standard_val c false _ Hc.out Hok.out).mono ?_; rintro e u ⟨rfl, hb⟩; replace hp := hp.below hb; replace hb0 := below_next hb0 hb; clear hb)
      | (go_at_call 24; refine (awake18_any _ (HT.out _ hb0)).mono ?_; rintro e u ⟨rfl, hb⟩; replace hp := hp.below hb; replace hb0 := below_next hb0 hb; clear hb))
    go_ret
    exact ⟨rfl, hb0⟩
  · have Hok := Lib.hid hok
    have hT01 : (t : Int) = 0 ∨ (t : Int) = 1 := by have := HTT.out.2; omega
    obtain ⟨kf, hkf⟩ : ∃ kf, D.find (stdP c) (t : Int) 6 = kf := ⟨_, rfl⟩
    have HKg := Lib.hid (fun W => king18_val (stdP c) (t : Int) kf W (pos_bd Hq.out) hT01 hkf)
    have HKF := Lib.hid hkf
    have HT01 := Lib.hid hT01
    clear hok hkf hT01
    go_enter Tryz.func6, Tryz.ntmps6
    go_upto_region 2 with (first
      | ((with_reducible refine wp_load_box rfl _ rfl ?_); refine ⟨_, _, rfl, (by assumption), ?_⟩)
      | ((with_reducible refine wp_store_box rfl _ _ rfl ?_); refine ⟨_, stdP c, rfl, rfl, ⟨_, hp.heap, posC_size _⟩, ?_⟩; intro V hV hp2; replace hb0 := hV.below hb0 (by omega); clear hV hp; have hp := hp2; clear hp2)
      | (go_at_call 22; refine (standard_val c true _ Hc.out Hok.out).mono ?_; rintro e u ⟨rfl, hb⟩; replace hp := hp.below hb; replace hb0 := below_next hb0 hb; clear hb))
    have k78 := (HC.out _ hp).1
    cases dk : decide (kf < 0)
    · go_wp2_with (first
        | ((with_reducible refine wp_load_box rfl _ rfl ?_); refine ⟨_, _, rfl, (by assumption), ?_⟩)
        | ((with_reducible refine wp_load_box_g rfl _ rfl ?_); refine ⟨_, _, rfl, (by assumption), ?_⟩)
        | (go_at_call 23; refine (HKg.out _).mono ?_; rintro e u ⟨rfl, hb⟩; replace hp := hp.below hb; replace hb0 := below_next hb0 hb; clear hb k78; have k78 := (HC.out _ hp).1)
        | (go_at_call 25; refine (plist_any (stdP c) _ Hq.out (HT.out _ hb0)).mono ?_; rintro e uu4 ⟨v4, rfl, hown4, hb⟩; replace hp := hp.below hb; replace hb0 := below_next hb0 hb; obtain ⟨ao1, cap1, rfl, hcp1, hcm1, hat1⟩ := W.row_at hown4; have hat2 := Lib.hid (And.intro hat1 hb.size); clear hb hown4 hcp1 hcm1 hat1 k78; have k78 := (HC.out _ hp).1)
        | (go_at_call 26; refine (pblocks_any (stdP c) _ _ (pos_bd Hq.out) (HT.out _ hb0)).mono ?_; rintro e uu5 ⟨rfl, hb⟩; replace hp := hp.below hb; replace hb0 := below_next hb0 hb; have hb45 := hb; clear hb k78))
      have hk0 : 0 ≤ kf := by simpa using dk
      obtain ⟨k2, hk2, hk2e⟩ : ∃ k2 : Nat, k2 < 64 ∧ D.find (stdP c) (t : Int) 6 = (k2 : Int) := by
        rcases D.find_bd (stdP c) (t : Int) 6 with h | h
        · rw [HKF.out] at h; omega
        · exact h
      have HK2 := Lib.hid (And.intro hk2 hk2e)
      obtain ⟨L, hL⟩ : ∃ L, D.lst (stdP c) = L := ⟨_, rfl⟩
      obtain ⟨b, hbv⟩ : ∃ b, N.blocks (stdP c) (t : Int) = b := ⟨_, rfl⟩
      have hl1 := lst_len (stdP c)
      have HLm : Hid (∀ m ∈ L, m ∈ D.lst (stdP c)) := Lib.hid (by rw [hL]; exact fun m h => h)
      have HBV := Lib.hid hbv
      rw [hL] at hl1 hat2 ⊢
      rw [hbv]
      have HA1 : Hid (0 < L.length → ∃ b1, ao1 = some ⟨b1, 0, none⟩ ∧ b1 < uu4.heap.size ∧ ∀ i m, L[i]? = some m → M.At uu5 b1 (i * 5) m) := Lib.hid (fun h => by
        obtain ⟨b1, h1, h2, h3⟩ := hat2.out.1 h
        exact ⟨b1, h1, h2, fun i m hm => (h3 i m hm).below hb45⟩)
      have HS45 := Lib.hid hb45.size
      have HPA := Lib.hid hp
      have HB0 := Lib.hid hb0
      clear hat2 hb45 hp hb0 hL hbv hk2 hk2e hk0 dk
      go_loopw [6] (fun i wr => ∃ k : Nat, k ≤ L.length ∧ i = .int .i64 (k : Int) ∧ Below uu5.heap.size uu5 wr) (fun i _ => L.length - (intOf i).toNat)
      case atStart => exact ⟨0, Nat.zero_le _, rfl, Below.refl _ _⟩
      case round =>
        obtain ⟨j, hj, rfl, hbr⟩ := hrel
        by_cases hlt : j < L.length
        · obtain ⟨x1, hx1⟩ : ∃ x1, L[j]? = some x1 := ⟨L[j], List.getElem?_eq_getElem hlt⟩
          have hmem := HLm.out _ (List.mem_of_getElem? hx1)
          obtain ⟨b1, hao1, hb1, hcell1⟩ := HA1.out (by omega)
          cases hao1
          obtain ⟨F, G, pk', hF64, hG64, hpk6, rfl⟩ := (A.is_plain (stdP c) x1 hmem).2
          obtain ⟨p, hpe⟩ : ∃ p : Int, (pk' : Int) = p := ⟨_, rfl⟩
          rw [hpe] at hmem hx1
          obtain ⟨tk, htk⟩ : ∃ tk, Z.taken (stdP c) ((F : Int), (G : Int), p, 0, false) = tk := ⟨_, rfl⟩
          have HTk : Hid (∀ W, Tb W → Calls Tryz.prog 20 #[.agg (posC (stdP c)), .agg #[.int .i8 (F : Int), .int .i8 (G : Int), .int .u8 p, .int .u8 0, .bool false]] W fun e w' => e = .returned (.int .i64 tk) ∧ Below W.heap.size W w') := Lib.hid (fun W h => htk ▸ ptaken_any (stdP c) (F : Int) (G : Int) p 0 false W Hq.out h)
          have HTK := Lib.hid htk
          have HMEM := Lib.hid hmem
          obtain ⟨x, hx⟩ : ∃ x, stdP c (1 + F) = x := ⟨_, rfl⟩
          obtain ⟨xm, hxm⟩ : ∃ xm, x.tmod 8 = xm := ⟨_, rfl⟩
          have hx0 : 0 ≤ x := by rw [← hx]; exact (pos_bd Hq.out F hF64).1
          have HXM := Lib.hid (show stdP c (1 + F) % 8 = xm by rw [hx, ← hxm, Int.tmod_eq_emod_of_nonneg hx0])
          have HX := Lib.hid hx
          have HXT := Lib.hid hxm
          have hAr := (hcell1 j _ hx1).below hbr
          obtain ⟨m0, m1, m2, m3, m4⟩ := hAr.five
          have hp := HPA.out.below hbr
          have HLT := Lib.hid hlt
          have hm := RowAt.new wr #[.int .i8 (F : Int), .int .i8 (G : Int), .int .u8 p, .int .u8 0, .bool false] 40
          have hpa := hp.alloc (.cells #[.int .i8 (F : Int), .int .i8 (G : Int), .int .u8 p, .int .u8 0, .bool false] 40)
          have hba := hbr.alloc hbr.size (.cells #[.int .i8 (F : Int), .int .i8 (G : Int), .int .u8 p, .int .u8 0, .bool false] 40)
          have HWM := Lib.hid hp.lt
          have hb1l : b1 < wr.heap.size := by have := hbr.size; have := HS45.out; omega
          have hj64 : (j : Int) < 100000 := by omega
          clear hcell1 hx1 hmem hAr hj hb1 htk hx hxm hx0 hp hbr hpe hpk6
          go_upto_region 10 with fail
          obtain ⟨W5, hW5⟩ : ∃ W5, wr.alloc (.cells #[.int .i8 (F : Int), .int .i8 (G : Int), .int .u8 p, .int .u8 0, .bool false] 40) = W5 := ⟨_, rfl⟩
          have hwm := HWM.out
          rw [hW5] at hm hpa hba ⊢
          obtain ⟨bm, hbm⟩ : ∃ bm, wr.heap.size = bm := ⟨_, rfl⟩
          rw [hbm] at hm hwm ⊢
          clear hW5 hbm m0 m1 m2 m3 m4 hj64 hb1l
          go_upto_region 11 with (first
            | ((with_reducible refine wp_load_box rfl _ rfl ?_); refine ⟨w.heap.size, stdP c, rfl, (by assumption), ?_⟩)
            | ((with_reducible refine wp_load_row' rfl 40 _ rfl Tryz.underlying40 rfl ?_); refine ⟨bm, 40, #[.int .i8 (F : Int), .int .i8 (G : Int), .int .u8 p, .int .u8 0, .bool false], rfl, (by assumption), Tryz.size_Mv, ?_⟩)
            | (go_at_call 20; refine (HTk.out _ (HT.out _ (below_next HB0.out hba))).mono ?_; rintro e w8 ⟨rfl, hb8⟩; replace hpa := hpa.below hb8; replace hm := hm.below hb8; replace hba := below_next hba hb8; clear hb8))
          have k0 : w8.cell? ⟨bm, 0, none⟩ = some (.int .i8 (F : Int)) := hm.cell 0
          have k1 : w8.cell? ⟨bm, 1, none⟩ = some (.int .i8 (G : Int)) := hm.cell 1
          have cp := (HC.out _ hpa).2 F hF64
          rw [HX.out] at cp
          have hF64I : (F : Int) < 64 := by omega
          have HPA8 := Lib.hid hpa
          have HM8 := Lib.hid hm
          have HB8 := Lib.hid hba
          clear hpa hm hba hwm HTk
          have y1 := HXT.out
          have y2 := A.w_i G hG64
          cases b1 : (xm == 6)
          · cases b2 : decide (0 ≤ tk)
            · go_upto_region 12 with fail
              clear y1 y2
              obtain ⟨F2, G2, p2, y, hme, _, _, hsit, hy6, hz0⟩ := W.sit_of (stdP c) ((F : Int), (G : Int), p, 0, false) k2 Hq.out (by unfold stdP; rw [upd_other _ _ _ _ (by decide), upd_same]) HK2.out.1 (by rw [HTT.out.1]; exact HK2.out.2) HMEM.out (by show stdP c (1 + ((F : Int)).toNat) % 8 ≠ 6; rw [Int.toNat_natCast, HXM.out]; simpa using b1) (by rw [HTK.out]; left; simpa using b2)
              have eF : F = F2 := by have h2 : (F : Int) = (F2 : Int) := congrArg (fun m : Mv => m.1) hme; omega
              have eG : G = G2 := by have h2 : (G : Int) = (G2 : Int) := congrArg (fun m : Mv => m.2.1) hme; omega
              subst eF eG
              rw [HTT.out.1] at hsit
              have HS := Lib.hid (And.intro hsit (And.intro hy6 hz0))
              clear hsit hy6 hz0 hme
              have hSt := HS.out
              have h1K := W.stdP_one c Hc.out (t : Int) HT01.out Hok.out
              obtain ⟨q', hq'⟩ : ∃ q', A.after (stdP c) ((F : Int), (G : Int), p, 0, false) (Z.taken (stdP c) ((F : Int), (G : Int), p, 0, false)) = q' := ⟨_, rfl⟩
              obtain ⟨chk, hchk⟩ : ∃ chk, K.check q' (t : Int) = chk := ⟨_, rfl⟩
              rw [hq'] at hSt
              obtain ⟨hfd, hwt⟩ := W.want hSt.1 (by rw [HXM.out]; simpa using b1) hSt.2.1 h1K hSt.2.2 hchk
              obtain ⟨l, hl⟩ : ∃ l, N.line (stdP c) (F : Int) = l := ⟨_, rfl⟩
              rw [HBV.out, hl] at hwt
              obtain ⟨wb, hwb⟩ : ∃ wb, (!chk) = wb := ⟨_, rfl⟩
              have HWl : Hid (∀ W, Tb W → Calls Tryz.prog 28 #[.agg (posC (stdP c)), .agg #[.int .i8 (F : Int), .int .i8 (G : Int), .int .u8 p, .int .u8 0, .bool false]] W fun e w' => e = .returned (.bool wb) ∧ Below W.heap.size W w') := Lib.hid (fun W h => hwb ▸ lwell_std (stdP c) q' F G p 0 false t chk W Hq.out h (by unfold stdP; rw [upd_other _ _ _ _ (by decide), upd_same]) HTT.out.1 HTT.out.2 (by unfold A.all; exact List.mem_append.2 (.inl HMEM.out)) hq' hSt.2.2 (by rw [find_eq _ _ (pos_bd (hq' ▸ A.after_ok (stdP c) _ Hq.out (by unfold A.all; exact List.mem_append.2 (.inl HMEM.out)) : PosOk q')), hfd]; omega) hchk)
              have HLn : Hid (∀ W, Tb W → Calls Tryz.prog 27 #[.agg (posC (stdP c)), .int .i64 (F : Int)] W fun e w' => e = .returned (.int .u64 (U l)) ∧ Below W.heap.size W w') := Lib.hid (fun W h => hl ▸ pline_any (stdP c) (F : Int) W (pos_bd Hq.out) h)
              rw [hwb] at hwt
              have e1 := A.and_1 (bShr (bAnd b l) G)
              have e2 : (U (bAnd (bShr (bAnd b l) G) 1#64) == 1) = wb := by rw [A.bit_test, ← hwt]
              have e3 := bv_shr_nat (bAnd b l) G
              rw [Nat.min_eq_left (by omega)] at e3
              have e4 : IntKind.u64.wrap (G : Int) = (G : Int) := A.w_u G hG64
              have e5 := A.w_i F hF64
              have HE := Lib.hid (And.intro e1 (And.intro e2 e3))
              clear hSt h1K hq' hchk hfd hwt hl hwb HS b1 b2
              have hTW := HT.out _ (below_next HB0.out HB8.out)
              have hp8 := HPA8.out
              have hml := HM8.out.lt
              refine region_below (by kernel_rfl) (by kernel_rfl) ?_
              repeat (first
                | (go_big_quiet_want; refine quiet_load_box _ rfl ⟨_, _, rfl, hp8, ?_⟩; simp only [Act.put, List.setIfInBounds_toArray, List.set_cons_succ, List.set_cons_zero]; go_big_quiet_on)
                | go_big_quiet_step (first
                  | (go_at_call 27; exact quiet_below (HLn.out _ (tb_grow hTW)))))
              refine wpQuiet_nil ?_
              intro w10 hb10
              have hp10 := hp8.below hb10
              have hm10 := HM8.out.below hb10
              have hB10 := below_next HB8.out hb10
              have hne : (wb != wb) = false := by simp
              clear e1 e2 e3 e4 e5 hb10 hp8 hml hTW k0 k1 cp
              go_wp2_with (first
                | ((with_reducible refine wp_load_box rfl _ rfl ?_); refine ⟨w.heap.size, stdP c, rfl, hp10, ?_⟩)
                | ((with_reducible refine wp_load_row' rfl 40 _ rfl Tryz.underlying40 rfl ?_); refine ⟨bm, 40, #[.int .i8 (F : Int), .int .i8 (G : Int), .int .u8 p, .int .u8 0, .bool false], rfl, hm10, Tryz.size_Mv, ?_⟩)
                | (go_at_call 28; refine (HWl.out _ (HT.out _ (below_next HB0.out hB10))).mono ?_; rintro e w11 ⟨rfl, hb11⟩))
              have HB11 := Lib.hid (below_next hB10 hb11)
              clear hb11 hB10 hp10 hm10
              have hlt2 := HLT.out
              go_roundw
              case rel => exact ⟨j + 1, by omega, by go_num, HB11.out⟩
              case measure => simp [intOf]; omega
            · cases b3 : (tk != (G : Int))
              · go_upto_region 12 with fail
                clear y1 y2
                obtain ⟨F2, G2, p2, y, hme, _, _, hsit, hy6, hz0⟩ := W.sit_of (stdP c) ((F : Int), (G : Int), p, 0, false) k2 Hq.out (by unfold stdP; rw [upd_other _ _ _ _ (by decide), upd_same]) HK2.out.1 (by rw [HTT.out.1]; exact HK2.out.2) HMEM.out (by show stdP c (1 + ((F : Int)).toNat) % 8 ≠ 6; rw [Int.toNat_natCast, HXM.out]; simpa using b1) (by rw [HTK.out]; right; simpa using b3)
                have eF : F = F2 := by have h2 : (F : Int) = (F2 : Int) := congrArg (fun m : Mv => m.1) hme; omega
                have eG : G = G2 := by have h2 : (G : Int) = (G2 : Int) := congrArg (fun m : Mv => m.2.1) hme; omega
                subst eF eG
                rw [HTT.out.1] at hsit
                have HS := Lib.hid (And.intro hsit (And.intro hy6 hz0))
                clear hsit hy6 hz0 hme
                have hSt := HS.out
                have h1K := W.stdP_one c Hc.out (t : Int) HT01.out Hok.out
                obtain ⟨q', hq'⟩ : ∃ q', A.after (stdP c) ((F : Int), (G : Int), p, 0, false) (Z.taken (stdP c) ((F : Int), (G : Int), p, 0, false)) = q' := ⟨_, rfl⟩
                obtain ⟨chk, hchk⟩ : ∃ chk, K.check q' (t : Int) = chk := ⟨_, rfl⟩
                rw [hq'] at hSt
                obtain ⟨hfd, hwt⟩ := W.want hSt.1 (by rw [HXM.out]; simpa using b1) hSt.2.1 h1K hSt.2.2 hchk
                obtain ⟨l, hl⟩ : ∃ l, N.line (stdP c) (F : Int) = l := ⟨_, rfl⟩
                rw [HBV.out, hl] at hwt
                obtain ⟨wb, hwb⟩ : ∃ wb, (!chk) = wb := ⟨_, rfl⟩
                have HWl : Hid (∀ W, Tb W → Calls Tryz.prog 28 #[.agg (posC (stdP c)), .agg #[.int .i8 (F : Int), .int .i8 (G : Int), .int .u8 p, .int .u8 0, .bool false]] W fun e w' => e = .returned (.bool wb) ∧ Below W.heap.size W w') := Lib.hid (fun W h => hwb ▸ lwell_std (stdP c) q' F G p 0 false t chk W Hq.out h (by unfold stdP; rw [upd_other _ _ _ _ (by decide), upd_same]) HTT.out.1 HTT.out.2 (by unfold A.all; exact List.mem_append.2 (.inl HMEM.out)) hq' hSt.2.2 (by rw [find_eq _ _ (pos_bd (hq' ▸ A.after_ok (stdP c) _ Hq.out (by unfold A.all; exact List.mem_append.2 (.inl HMEM.out)) : PosOk q')), hfd]; omega) hchk)
                have HLn : Hid (∀ W, Tb W → Calls Tryz.prog 27 #[.agg (posC (stdP c)), .int .i64 (F : Int)] W fun e w' => e = .returned (.int .u64 (U l)) ∧ Below W.heap.size W w') := Lib.hid (fun W h => hl ▸ pline_any (stdP c) (F : Int) W (pos_bd Hq.out) h)
                rw [hwb] at hwt
                have e1 := A.and_1 (bShr (bAnd b l) G)
                have e2 : (U (bAnd (bShr (bAnd b l) G) 1#64) == 1) = wb := by rw [A.bit_test, ← hwt]
                have e3 := bv_shr_nat (bAnd b l) G
                rw [Nat.min_eq_left (by omega)] at e3
                have e4 : IntKind.u64.wrap (G : Int) = (G : Int) := A.w_u G hG64
                have e5 := A.w_i F hF64
                have HE := Lib.hid (And.intro e1 (And.intro e2 e3))
                clear hSt h1K hq' hchk hfd hwt hl hwb HS b1 b2 b3
                have hTW := HT.out _ (below_next HB0.out HB8.out)
                have hp8 := HPA8.out
                have hml := HM8.out.lt
                refine region_below (by kernel_rfl) (by kernel_rfl) ?_
                repeat (first
                  | (go_big_quiet_want; refine quiet_load_box _ rfl ⟨_, _, rfl, hp8, ?_⟩; simp only [Act.put, List.setIfInBounds_toArray, List.set_cons_succ, List.set_cons_zero]; go_big_quiet_on)
                  | go_big_quiet_step (first
                    | (go_at_call 27; exact quiet_below (HLn.out _ (tb_grow hTW)))))
                refine wpQuiet_nil ?_
                intro w10 hb10
                have hp10 := hp8.below hb10
                have hm10 := HM8.out.below hb10
                have hB10 := below_next HB8.out hb10
                have hne : (wb != wb) = false := by simp
                clear e1 e2 e3 e4 e5 hb10 hp8 hml hTW k0 k1 cp
                go_wp2_with (first
                  | ((with_reducible refine wp_load_box rfl _ rfl ?_); refine ⟨w.heap.size, stdP c, rfl, hp10, ?_⟩)
                  | ((with_reducible refine wp_load_row' rfl 40 _ rfl Tryz.underlying40 rfl ?_); refine ⟨bm, 40, #[.int .i8 (F : Int), .int .i8 (G : Int), .int .u8 p, .int .u8 0, .bool false], rfl, hm10, Tryz.size_Mv, ?_⟩)
                  | (go_at_call 28; refine (HWl.out _ (HT.out _ (below_next HB0.out hB10))).mono ?_; rintro e w11 ⟨rfl, hb11⟩))
                have HB11 := Lib.hid (below_next hB10 hb11)
                clear hb11 hB10 hp10 hm10
                have hlt2 := HLT.out
                go_roundw
                case rel => exact ⟨j + 1, by omega, by go_num, HB11.out⟩
                case measure => simp [intOf]; omega
              · go_wp2
                have hlt2 := HLT.out
                go_roundw
                case rel => exact ⟨j + 1, by omega, by go_num, HB8.out⟩
                case measure => simp [intOf]; omega
          · go_wp2
            have hlt2 := HLT.out
            go_roundw
            case rel => exact ⟨j + 1, by omega, by go_num, HB8.out⟩
            case measure => simp [intOf]; omega
        · obtain rfl : j = L.length := by omega
          go_wp2_with (go_at_call 24; refine (awake18_any _ (HT.out _ (below_next HB0.out hbr))).mono ?_; rintro e w4 ⟨rfl, hb4⟩)
          go_ret
          exact ⟨rfl, below_next (below_next HB0.out hbr) hb4⟩
    · go_wp2_with (first
        | ((with_reducible refine wp_load_box rfl _ rfl ?_); refine ⟨_, _, rfl, (by assumption), ?_⟩)
        | ((with_reducible refine wp_load_box_g rfl _ rfl ?_); refine ⟨_, _, rfl, (by assumption), ?_⟩)
        | (go_at_call 23; refine (HKg.out _).mono ?_; rintro e u ⟨rfl, hb⟩; replace hp := hp.below hb; replace hb0 := below_next hb0 hb; clear hb)
        | (go_at_call 24; refine (awake18_any _ (HT.out _ hb0)).mono ?_; rintro e u ⟨rfl, hb⟩; replace hp := hp.below hb; replace hb0 := below_next hb0 hb; clear hb))
      go_ret
      exact ⟨rfl, hb0⟩
end Go.Proofs.YtgkndhpolcnjbaaGreatDoor
