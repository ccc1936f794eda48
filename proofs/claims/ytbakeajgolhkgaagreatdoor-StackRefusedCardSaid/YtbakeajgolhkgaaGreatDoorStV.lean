/- The law StackRefused: what it does. (printed by gen20s.py) -/
import Derived.Test.YtbakeajgolhkgaaGreatDoorStR
import Derived.Test.YtbakeajgolhkgaaGreatDoorYbm
import Derived.Test.YtbakeajgolhkgaaGreatDoorYap
import Derived.Test.YtbakeajgolhkgaaGreatDoorYbb
namespace Go.Proofs.YtbakeajgolhkgaaGreatDoor
open Go.RowKit Go.Sort
attribute [local go_sem] Oper.semAt_some

theorem play_on {base : Nat} {w : World} {g : Nat} {c : Nat → Int} {N : Nat} {x : Nat → Int} {v : Value} (h : Sk.At base w g (Sk.st0 c) 0) (hv : Sk.Ints base w v N x) (hN : N ≤ 1000) (hT : ∀ W, Below base w W → Tb W) (hbase : base ≤ w.heap.size) :
    Calls Tryz.prog 36 #[.pointer (some ⟨g, 0, none⟩), v] w fun e w' => ∃ (k : Nat) (s' : Sk.St), e = .returned (.int .i64 (k : Int)) ∧ k ≤ N ∧ Sk.At base w' g s' k ∧ Sk.Kg base w w' :=
  (play_any base w g (Sk.st0 c) 0 N x v h hv (by omega) hT hbase).mono fun _ _ ⟨k, s', h1, h2, _, h4⟩ => ⟨k, s', h1, h2, Nat.zero_add k ▸ h4.at', h4.kg⟩
set_option maxRecDepth 100000 in
set_option maxHeartbeats 8000000 in
theorem stackRefused_walk (c : Nat → Int) (N : Nat) (x : Nat → Int) (v : Value) (f' t' p' d' : Int) (ca' : Bool) (w : World) (hc : PosOk c) (hv : Sk.Ints w.heap.size w v N x) (_hm : MovOk f' t' p' d') (hT : Tb w) :
    Calls Tryz.prog 6 #[.agg (posC c), v, .agg (movC f' t' p' d' ca')] w fun e w' => e = .returned (.bool true) ∧ Below w.heap.size w w' := by
  have hp0 := (PosAt.new w c).alloc (.cells (M.cell (f', t', p', d', ca')).toArray 47)
  have hm0 := RowAt.new (w.alloc (.cells (posC c) 31)) (M.cell (f', t', p', d', ca')).toArray 47
  rw [World.size_alloc] at hm0
  have hb0 : Below w.heap.size w ((w.alloc (.cells (posC c) 31)).alloc (.cells (M.cell (f', t', p', d', ca')).toArray 47)) := ((Below.refl _ _).alloc (Nat.le_refl _) _).alloc (by rw [World.size_alloc]; omega) _
  have HT : Hid (∀ W, Below w.heap.size w W → Tb W) := Lib.hid (fun W hb => zi hT hb)
  have HAw : Hid (∀ W, Below w.heap.size w W → Calls Tryz.prog 35 #[] W fun e w' => e = .returned (.bool true) ∧ Below W.heap.size W w') := Lib.hid (fun W hb => zd5 W (HT.out W hb))
  have HNw : Hid (∀ W, Below w.heap.size w W → Calls Tryz.prog 12 #[.agg (posC c)] W fun e w' => ∃ g, e = .returned (.pointer (some ⟨g, 0, none⟩)) ∧ Sk.At w.heap.size w' g (Sk.st0 c) 0 ∧ Below W.heap.size W w') := Lib.hid (fun W h => zhX w.heap.size c W hc h.size)
  have HPl : N ≤ 12 → Hid (∀ g W, Below w.heap.size w W → Sk.At w.heap.size W g (Sk.st0 c) 0 → Calls Tryz.prog 36 #[.pointer (some ⟨g, 0, none⟩), v] W fun e w' => ∃ (k : Nat) (s' : Sk.St), e = .returned (.int .i64 (k : Int)) ∧ k ≤ N ∧ Sk.At w.heap.size w' g s' k ∧ Sk.Kg w.heap.size W w') := fun h12 => Lib.hid (fun g W hb h => play_on h (hv.below hb) (by omega) (fun W' h' => HT.out W' (hb.trans h')) hb.size)
  obtain ⟨ao, cap, rfl, _, _, _, _⟩ := hv
  clear hT hc _hm
  have hC : (movC f' t' p' d' ca') = (M.cell (f', t', p', d', ca')).toArray := rfl
  rw [hC]
  clear hC
  by_cases h12 : 12 < N
  · have d1 : decide ((12 : Int) < (N : Int)) = true := by simp; omega
    clear HPl
    go_enter Tryz.func6, Tryz.ntmps6
    go_wp2_with (first
      | (go_at_call 35; (with_reducible refine (HAw.out _ hb0).mono ?_); rintro e w1 ⟨rfl, hb⟩; have B1 := Lib.hid (za hb0 hb); clear hb))
    go_ret
    exact ⟨rfl, B1.out⟩
  have d1 : decide ((12 : Int) < (N : Int)) = false := by simp; omega
  replace HPl := HPl (by omega)
  have HN := Lib.hid (show N ≤ 12 by omega)
  clear h12
  go_enter Tryz.func6, Tryz.ntmps6
  go_upto_region 7 with (first
    | (go_at_call 35; (with_reducible refine (HAw.out _ hb0).mono ?_); rintro e w1 ⟨rfl, hb⟩; have B1 := Lib.hid (za hb0 hb); have Q1 := Lib.hid (hp0.below hb); have R1 := Lib.hid (hm0.below hb); clear hb)
    | ((with_reducible refine ze rfl _ rfl ?_); refine ⟨_, c, rfl, Q1.out, ?_⟩)
    | (go_at_call 12; (with_reducible refine (HNw.out _ B1.out).mono ?_); rintro e w2 ⟨g, rfl, hg, hb⟩; have B2 := Lib.hid (za B1.out hb); have R2 := Lib.hid (R1.out.below hb); have G2 := Lib.hid hg; clear hb hg)
    | (go_at_call 36; (with_reducible refine (HPl.out g _ B2.out G2.out).mono ?_); rintro e w3 ⟨k, s', rfl, hk, hat, hkg⟩; have B3 := Lib.hid (Sk.Kg.next B2.out hkg (Nat.le_refl _)); have R3 := Lib.hid (hkg.mv R2.out); have A3 := Lib.hid hat; have HK := Lib.hid (show k ≤ 12 by have := HN.out; omega); clear hkg hk hat))
  clear B1 B2 Q1 R1 R2 G2 HPl HNw HAw hp0 hm0 hb0 HN
  obtain ⟨d, hd⟩ : ∃ d, s'.pos k = d := ⟨_, rfl⟩
  have G3 : Hid (Sk.On w.heap.size w3 g k d) := Lib.hid ⟨s', A3.out, hd⟩
  have HOd := Lib.hid G3.out.ok
  clear hd A3
  obtain ⟨mb, hmb⟩ : ∃ y, w.heap.size + 1 = y := ⟨_, rfl⟩
  rw [hmb] at R3
  try rw [hmb]
  clear hmb
  have HPo : Hid (∀ W, Sk.On w.heap.size W g k d → Calls Tryz.prog 18 #[.pointer (some ⟨g, 0, none⟩)] W fun e w' => e = .returned (.agg (posC d)) ∧ Below W.heap.size W w') := Lib.hid (fun W h => zbI h)
  have HKy : Hid (∀ W, Sk.On w.heap.size W g k d → Calls Tryz.prog 19 #[.pointer (some ⟨g, 0, none⟩)] W fun e w' => e = .returned (.int .u64 (U (H.key d))) ∧ Below W.heap.size W w') := Lib.hid (fun W h => zgX h (by have := HK.out; omega))
  have HLn : Hid (∀ W (n : Nat), Sk.On w.heap.size W g n d → Calls Tryz.prog 21 #[.pointer (some ⟨g, 0, none⟩)] W fun e w' => e = .returned (.int .i64 (n : Int)) ∧ Below W.heap.size W w') := Lib.hid (fun W n h => (zbz h).mono fun _ _ ⟨h1, h2⟩ => ⟨h1, by rw [← h2]; exact Below.refl _ _⟩)
  obtain ⟨ky, hky⟩ : ∃ y, U (H.key d) = y := ⟨_, rfl⟩
  rw [hky] at HKy
  clear hky
  go_upto_region 8 with (first
    | (go_at_call 18; (with_reducible refine (HPo.out _ G3.out).mono ?_); rintro e w4 ⟨rfl, hb⟩; have G4 := Lib.hid (G3.out.below hb); have B4 := Lib.hid (za B3.out hb); have R4 := Lib.hid (R3.out.below hb); clear hb)
    | (go_at_call 19; (with_reducible refine (HKy.out _ G4.out).mono ?_); rintro e w5 ⟨rfl, hb⟩; have G5 := Lib.hid (G4.out.below hb); have B5 := Lib.hid (za B4.out hb); have R5 := Lib.hid (R4.out.below hb); clear hb)
    | ((with_reducible refine zn rfl _ _ rfl ?_); refine ⟨w5.heap.size, d, rfl, (by first | rfl | kernel_rfl), ⟨_, heap_alloc_new _ _, (by kernel_rfl)⟩, ?_⟩; intro W6 hP6 hq6; have hX := hP6.below ((Below.refl w5.heap.size w5).alloc (Nat.le_refl _) _) (Nat.le_refl _); have B6 := Lib.hid (za B5.out hX); have R6 := Lib.hid (R5.out.below hX); have G6 := Lib.hid (G5.out.below hX); have Q6 := Lib.hid hq6; clear hX hP6 hq6))
  obtain ⟨qb, hqb⟩ : ∃ y, w5.heap.size = y := ⟨_, rfl⟩
  rw [hqb] at Q6 ⊢
  clear hqb B3 B4 B5 G3 G4 G5 R3 R4 R5
  have HIs : Hid (∀ W, Below w.heap.size w W → Calls Tryz.prog 27 #[.agg (posC d), .agg (M.cell (f', t', p', d', ca')).toArray] W fun e w' => e = .returned (.bool (decide ((f', t', p', d', ca') ∈ G.list d))) ∧ Below W.heap.size W w') := Lib.hid (fun W h => ziQ d _ W HOd.out (HT.out W h))
  by_cases ho : (G.outcome d).1 = 0
  · by_cases hm : (f', t', p', d', ca') ∈ G.list d
    · have HMk : Hid (∀ W, Below w.heap.size w W → Sk.On w.heap.size W g k d → Calls Tryz.prog 15 #[.pointer (some ⟨g, 0, none⟩), .agg (M.cell (f', t', p', d', ca')).toArray] W fun e w' => e = .returned (.int .i64 0) ∧ Sk.On2 w.heap.size w' g k d (G.next d (f', t', p', d', ca')) ∧ Sk.Kg w.heap.size W w') := Lib.hid (fun W hb h => zgl _ h (by have := HK.out; omega) (HT.out W hb) hb.size ho hm)
      rw [decide_eq_true hm] at HIs
      obtain ⟨q, hq⟩ : ∃ q, G.next d (f', t', p', d', ca') = q := ⟨_, rfl⟩
      rw [hq] at HMk
      have HUn : Hid (∀ W, Sk.On2 w.heap.size W g k d q → Calls Tryz.prog 14 #[.pointer (some ⟨g, 0, none⟩)] W fun e w' => e = .returned (.int .i64 0) ∧ Sk.On w.heap.size w' g k d ∧ Sk.Kg w.heap.size W w') := Lib.hid (fun W h => zeR h (by have := HK.out; omega))
      have HLq : Hid (∀ W, Sk.On2 w.heap.size W g k d q → Calls Tryz.prog 21 #[.pointer (some ⟨g, 0, none⟩)] W fun e w' => e = .returned (.int .i64 ((k : Int) + 1)) ∧ W = w') := Lib.hid (fun W h => zbz h.on)
      have hk1 : wrap64 ((k : Int) + 1) = (k : Int) + 1 := by have := HK.out; simp only [wrap64]; omega
      clear hq ho hm HT
      go_upto_region 14 with (first
        | ((with_reducible refine zs rfl 47 _ rfl Tryz.underlying47 rfl ?_); refine ⟨_, _, _, rfl, R6.out, Sk.size_mvR _, ?_⟩)
        | (go_at_call 15; (with_reducible refine (HMk.out _ B6.out G6.out).mono ?_); rintro e w7 ⟨rfl, hg, hk⟩; have G7 := Lib.hid hg; have B7 := Lib.hid (Sk.Kg.next B6.out hk (Nat.le_refl _)); have Q7 := Lib.hid (hk.pos Q6.out); have R7 := Lib.hid (hk.mv R6.out); clear hg hk)
        | ((with_reducible refine zs rfl 47 _ rfl Tryz.underlying47 rfl ?_); refine ⟨_, _, _, rfl, R7.out, Sk.size_mvR _, ?_⟩)
        | ((with_reducible refine zh rfl _ rfl ?_); refine ⟨_, d, rfl, Q7.out, ?_⟩)
        | (go_at_call 27; (with_reducible refine (HIs.out _ B7.out).mono ?_); rintro e w8 ⟨rfl, hb⟩; have G8 := Lib.hid (G7.out.below hb); have B8 := Lib.hid (za B7.out hb); have Q8 := Lib.hid (Q7.out.below hb); clear hb)
        | (go_at_call 21; (with_reducible refine (HLq.out _ G8.out).mono ?_); rintro e w' ⟨rfl, rfl⟩)
        | (go_at_call 14; (with_reducible refine (HUn.out _ G8.out).mono ?_); rintro e w10 ⟨rfl, hg, hk⟩; have G10 := Lib.hid hg; have B10 := Lib.hid (Sk.Kg.next B8.out hk (Nat.le_refl _)); have Q10 := Lib.hid (hk.pos Q8.out); clear hg hk))
      have HGn := G10
      have hq4 := Q10.out
      have hl4 := hq4.lt
      have HOn := Lib.hid (fun W (h : Below w10.heap.size w10 W) => HGn.out.below h)
      refine zal (by kernel_rfl) (by kernel_rfl) ?_
      try simp only [Act.put]
      repeat (first
        | (go_big_quiet_want; refine zL _ rfl ⟨_, _, rfl, hq4, ?_⟩; simp only [Act.put, List.setIfInBounds_toArray, List.set_cons_succ, List.set_cons_zero]; go_big_quiet_on)
        | (go_big_quiet_want; refine zcx _ _ _ rfl ⟨d, d, HOd.out, HOd.out, rfl, rfl, ?_⟩; rw [zah]; simp only [Act.put, List.setIfInBounds_toArray, List.set_cons_succ, List.set_cons_zero]; go_big_quiet_on)
        | go_big_quiet_step (first
          | (go_at_call 21; exact zd (HLn.out _ k (HOn.out _ (below_regrown _ _ _))))
          | (go_at_call 19; exact zd (HKy.out _ (HOn.out _ (below_regrown _ _ _))))
          | (go_at_call 18; exact zd (HPo.out _ (HOn.out _ (below_regrown _ _ _))))))
      refine wpQuiet_nil ?_
      intro w9 hb9
      have B9 := Lib.hid (za B10.out hb9)
      clear hb9 hq4 hl4
      go_wp2
      go_ret
      exact ⟨rfl, B9.out⟩
    · have HMk : Hid (∀ W, Below w.heap.size w W → Sk.On w.heap.size W g k d → Calls Tryz.prog 15 #[.pointer (some ⟨g, 0, none⟩), .agg (M.cell (f', t', p', d', ca')).toArray] W fun e w' => e = .returned (.int .i64 170) ∧ Below W.heap.size W w') := Lib.hid (fun W hb h => by have := zfN (f', t', p', d', ca') h (by have := HK.out; omega) (HT.out W hb) hb.size (.inr hm); rwa [if_pos ho] at this)
      rw [decide_eq_false hm] at HIs
      clear ho hm HT
      go_upto_region 14 with (first
        | ((with_reducible refine zs rfl 47 _ rfl Tryz.underlying47 rfl ?_); refine ⟨_, _, _, rfl, R6.out, Sk.size_mvR _, ?_⟩)
        | (go_at_call 15; (with_reducible refine (HMk.out _ B6.out G6.out).mono ?_); rintro e w7 ⟨rfl, hb⟩; have G7 := Lib.hid (G6.out.below hb); have B7 := Lib.hid (za B6.out hb); have Q7 := Lib.hid (Q6.out.below hb); have R7 := Lib.hid (R6.out.below hb); clear hb)
        | ((with_reducible refine zs rfl 47 _ rfl Tryz.underlying47 rfl ?_); refine ⟨_, _, _, rfl, R7.out, Sk.size_mvR _, ?_⟩)
        | ((with_reducible refine zh rfl _ rfl ?_); refine ⟨_, d, rfl, Q7.out, ?_⟩)
        | (go_at_call 27; (with_reducible refine (HIs.out _ B7.out).mono ?_); rintro e w8 ⟨rfl, hb⟩; have G8 := Lib.hid (G7.out.below hb); have B8 := Lib.hid (za B7.out hb); have Q8 := Lib.hid (Q7.out.below hb); clear hb))
      have HGn := G8
      have hq4 := Q8.out
      have hl4 := hq4.lt
      have HOn := Lib.hid (fun W (h : Below w8.heap.size w8 W) => HGn.out.below h)
      refine zal (by kernel_rfl) (by kernel_rfl) ?_
      try simp only [Act.put]
      repeat (first
        | (go_big_quiet_want; refine zL _ rfl ⟨_, _, rfl, hq4, ?_⟩; simp only [Act.put, List.setIfInBounds_toArray, List.set_cons_succ, List.set_cons_zero]; go_big_quiet_on)
        | (go_big_quiet_want; refine zcx _ _ _ rfl ⟨d, d, HOd.out, HOd.out, rfl, rfl, ?_⟩; rw [zah]; simp only [Act.put, List.setIfInBounds_toArray, List.set_cons_succ, List.set_cons_zero]; go_big_quiet_on)
        | go_big_quiet_step (first
          | (go_at_call 21; exact zd (HLn.out _ k (HOn.out _ (below_regrown _ _ _))))
          | (go_at_call 19; exact zd (HKy.out _ (HOn.out _ (below_regrown _ _ _))))
          | (go_at_call 18; exact zd (HPo.out _ (HOn.out _ (below_regrown _ _ _))))))
      refine wpQuiet_nil ?_
      intro w9 hb9
      have B9 := Lib.hid (za B8.out hb9)
      clear hb9 hq4 hl4
      go_wp2
      go_ret
      exact ⟨rfl, B9.out⟩
  · have HMk : Hid (∀ W, Below w.heap.size w W → Sk.On w.heap.size W g k d → Calls Tryz.prog 15 #[.pointer (some ⟨g, 0, none⟩), .agg (M.cell (f', t', p', d', ca')).toArray] W fun e w' => e = .returned (.int .i64 190) ∧ Below W.heap.size W w') := Lib.hid (fun W hb h => by have := zfN (f', t', p', d', ca') h (by have := HK.out; omega) (HT.out W hb) hb.size (.inl ho); rwa [if_neg ho] at this)
    clear ho HT HIs
    go_upto_region 14 with (first
      | ((with_reducible refine zs rfl 47 _ rfl Tryz.underlying47 rfl ?_); refine ⟨_, _, _, rfl, R6.out, Sk.size_mvR _, ?_⟩)
      | (go_at_call 15; (with_reducible refine (HMk.out _ B6.out G6.out).mono ?_); rintro e w7 ⟨rfl, hb⟩; have G7 := Lib.hid (G6.out.below hb); have B7 := Lib.hid (za B6.out hb); have Q7 := Lib.hid (Q6.out.below hb); clear hb))
    have HGn := G7
    have hq4 := Q7.out
    have hl4 := hq4.lt
    have HOn := Lib.hid (fun W (h : Below w7.heap.size w7 W) => HGn.out.below h)
    refine zal (by kernel_rfl) (by kernel_rfl) ?_
    try simp only [Act.put]
    repeat (first
      | (go_big_quiet_want; refine zL _ rfl ⟨_, _, rfl, hq4, ?_⟩; simp only [Act.put, List.setIfInBounds_toArray, List.set_cons_succ, List.set_cons_zero]; go_big_quiet_on)
      | (go_big_quiet_want; refine zcx _ _ _ rfl ⟨d, d, HOd.out, HOd.out, rfl, rfl, ?_⟩; rw [zah]; simp only [Act.put, List.setIfInBounds_toArray, List.set_cons_succ, List.set_cons_zero]; go_big_quiet_on)
      | go_big_quiet_step (first
        | (go_at_call 21; exact zd (HLn.out _ k (HOn.out _ (below_regrown _ _ _))))
        | (go_at_call 19; exact zd (HKy.out _ (HOn.out _ (below_regrown _ _ _))))
        | (go_at_call 18; exact zd (HPo.out _ (HOn.out _ (below_regrown _ _ _))))))
    refine wpQuiet_nil ?_
    intro w9 hb9
    have B9 := Lib.hid (za B7.out hb9)
    clear hb9 hq4 hl4
    go_wp2
    go_ret
    exact ⟨rfl, B9.out⟩
end Go.Proofs.YtbakeajgolhkgaaGreatDoor
