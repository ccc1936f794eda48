/- The laws of layer 13: awake. -/
import Derived.Test.YtlphjjekamhnlaaDoorLaw13a
namespace Go.Proofs.YtlphjjekamhnlaaDoor
open Go.RowKit Go.Sort

/-- What List tells, opened: n moves, some of them at their places. -/
theorem lst_open (c : Nat → Int) (n : Nat) (w w' : World) (y : Value) (hn : (D.lst c).length = n) (h0 : 0 < n) (hown : w'.ownsRow w.heap.size 36 5 y (D.lst c).length (M.cells (D.lst c))) :
    ∃ b cap, y = .slice (some ⟨b, 0, none⟩) n cap ∧ n ≤ cap ∧ cap ≤ maxLen ∧ b < w'.heap.size ∧ ∀ i m, (D.lst c)[i]? = some m → M.At w' b (i * 5) m := by
  rw [hn] at hown
  obtain ⟨ao, cap, rfl, h1, h2, h3⟩ := M.row_open hown
  obtain ⟨b, rfl, _, hb, hc⟩ := h3 h0
  exact ⟨b, cap, rfl, h1, h2, hb, fun i m hm => M.at_of hc i m hm⟩
theorem start0_any (w : World) : Calls Tryd.prog 23 #[.int .u8 0] w fun e w' => e = .returned (.tuple #[.agg (posC Z.aw0), .bool true]) ∧ Below w.heap.size w w' := start_any 0 w (by decide)
theorem quiet_load_atC {a : Act} {o : Oper} {w : World} (x : Operand) {K : Act → Prop} (ho : o.op = .load 36 x)
    (h : ∃ (b off : Nat) (m : Mv), a.eval x = .pointer (some ⟨b, off, none⟩) ∧ M.At w b off m ∧ K (a.put o.dst (.agg #[.int .i8 m.1, .int .i8 m.2.1, .int .u8 m.2.2.1, .int .u8 m.2.2.2.1, .bool m.2.2.2.2]))) : o.quiet Tryd.prog a (fun w' => ∃ p : Regrown, w' = grow (redrawn w p.d) p.os) K := by
  obtain ⟨b, off, m, hx, hp, hk⟩ := h
  refine ⟨_, fun w' hw => ?_, hk⟩
  obtain ⟨p, rfl⟩ := hw
  have hg := hp.below (below_regrown w p.d p.os)
  unfold Oper.quietAt execOp
  simp only [ho, hx, Instr.loadAt, Instr.sureAddr, Sem.run_bind, Sem.run_pure, Result.andThen_ok, run_loadVar_mid _ b off 36 (M.cell m) _ hg Tryd.underlying36 rfl Tryd.size_Mv]
  exact ⟨rfl, rfl⟩
set_option maxRecDepth 100000 in
set_option maxHeartbeats 8000000 in
theorem awake13_any (w : World) (hT : Tb w) :
    Calls Tryd.prog 15 #[] w fun e w' => e = .returned (.bool true) ∧ Below w.heap.size w w' := by
  have HT : Hid (∀ W, Below w.heap.size w W → Tb W) := Lib.hid (fun W hb => tb_below hT hb)
  have HL0 : Hid (∀ W, Tb W → Calls Tryd.prog 12 #[.agg (posC Z.aw0)] W (Z.End (D.lst Z.aw0) W)) := Lib.hid (fun W h => plist_any _ W aw0_ok h)
  have HL1 : Hid (∀ W, Tb W → Calls Tryd.prog 12 #[.agg (posC Z.aw1)] W (Z.End (D.lst Z.aw1) W)) := Lib.hid (fun W h => plist_any _ W aw1_ok h)
  have HL2 : Hid (∀ W, Tb W → Calls Tryd.prog 12 #[.agg (posC Z.aw2)] W (Z.End (D.lst Z.aw2) W)) := Lib.hid (fun W h => plist_any _ W aw2_ok h)
  have HTk : Hid (∀ W, Tb W → Calls Tryd.prog 32 #[.agg (posC Z.aw2), .agg #[.int .i8 36, .int .i8 43, .int .u8 0, .int .u8 0, .bool false]] W fun e w' => e = .returned (.int .i64 35) ∧ Below W.heap.size W w') := Lib.hid (fun W h => by have := ptaken_any Z.aw2 36 43 0 0 false W aw2_ok h; rwa [aw2_tk.1] at this)
  have HTs : Hid (∀ W, Tb W → Calls Tryd.prog 33 #[.agg (posC Z.aw2), .agg #[.int .i8 36, .int .i8 44, .int .u8 0, .int .u8 0, .bool false]] W fun e w' => e = .returned (.bool false) ∧ Below W.heap.size W w') := Lib.hid (fun W h => by have := ptakes_any Z.aw2 36 44 0 0 false W aw2_ok h; rw [aw2_tk.2] at this; exact this)
  clear hT
  go_enter Tryd.func15, Tryd.ntmps15
  go_wp2_with (first
    | (go_at_call 23; refine (start0_any _).mono ?_; rintro e w1 ⟨rfl, hb1⟩)
    | ((with_reducible refine wp_store_box rfl _ _ rfl ?_); refine ⟨w1.heap.size, Z.aw0, rfl, rfl, ⟨_, heap_alloc_new _ _, (by kernel_rfl)⟩, ?_⟩; intro W2 hP2 hq2; have HB2 := Lib.hid (hP2.below (hb1.alloc hb1.size _) hb1.size); clear hP2)
    | ((with_reducible refine wp_load_box rfl _ rfl ?_); refine ⟨_, _, rfl, hq2, ?_⟩)
    | (go_at_call 12; (with_reducible refine (HL0.out _ (HT.out _ HB2.out)).mono ?_); rintro e w3 ⟨y0, rfl, hown0, hb3⟩; have HB3 := Lib.hid (below_next HB2.out hb3); obtain ⟨g0, cap0, rfl, hcp0, hcm0, hg0, hat0⟩ := lst_open Z.aw0 20 _ _ _ aw0_ls.1 (by decide) hown0; have HA0 := Lib.hid (And.intro (hat0 0 _ aw0_ls.2.1) (hat0 5 _ aw0_ls.2.2)); clear hown0 hat0 hb3 hq2)
    | ((with_reducible refine wp_store_box rfl _ _ rfl ?_); refine ⟨w3.heap.size, noneC, rfl, (by kernel_rfl), ⟨_, heap_alloc_new _ _, (by kernel_rfl)⟩, ?_⟩; intro W4 hP4 hq4; have HC4 := Lib.hid (hP4.below ((Below.refl w3.heap.size w3).alloc (Nat.le_refl _) _) (Nat.le_refl _)); clear hP4)
    | ((with_reducible refine wp_store_cell rfl _ _ _ rfl ?_); refine ⟨w3.heap.size, 49, _, _, _, rfl, rfl, hq4, (by decide), rfl, Tryd.size_u8, ?_⟩; intro W5 hP5 hq5; have HC5 := Lib.hid (hP5.below HC4.out (Nat.le_refl _)); clear hP5 hq4)
    | ((with_reducible refine wp_store_cell rfl _ _ _ rfl ?_); refine ⟨w3.heap.size, 58, _, _, _, rfl, rfl, hq5, (by decide), rfl, Tryd.size_u8, ?_⟩; intro W6 hP6 hq6; have HC6 := Lib.hid (hP6.below HC5.out (Nat.le_refl _)); have HB6 := Lib.hid (below_next HB3.out HC6.out); clear hP6 hq5)
    | ((with_reducible refine wp_load_box rfl _ rfl ?_); refine ⟨w3.heap.size, Z.aw1, rfl, hq6, ?_⟩)
    | (go_at_call 12; (with_reducible refine (HL1.out _ (HT.out _ HB6.out)).mono ?_); rintro e w7 ⟨y1, rfl, hown1, hb7⟩; have HB7 := Lib.hid (below_next HB6.out hb7); have HC7 := Lib.hid (below_next HC6.out hb7); obtain ⟨g1, cap1, rfl, hcp1, hcm1, hg1, hat1⟩ := lst_open Z.aw1 8 _ _ _ aw1_ls.1 (by decide) hown1; have HA1 := Lib.hid (And.intro (hat1 0 _ aw1_ls.2.1) (hat1 7 _ aw1_ls.2.2)); clear hown1 hat1 hb7 hq6)
    | ((with_reducible refine wp_store_box rfl _ _ rfl ?_); refine ⟨w7.heap.size, upd noneC 83 43, rfl, (by kernel_rfl), ⟨_, heap_alloc_new _ _, (by kernel_rfl)⟩, ?_⟩; intro W8 hP8 hq8; have HD8 := Lib.hid (hP8.below ((Below.refl w7.heap.size w7).alloc (Nat.le_refl _) _) (Nat.le_refl _)); clear hP8)
    | ((with_reducible refine wp_store_cell rfl _ _ _ rfl ?_); refine ⟨w7.heap.size, 37, _, _, _, rfl, rfl, hq8, (by decide), rfl, Tryd.size_u8, ?_⟩; intro W9 hP9 hq9; have HD9 := Lib.hid (hP9.below HD8.out (Nat.le_refl _)); clear hP9 hq8)
    | ((with_reducible refine wp_store_cell rfl _ _ _ rfl ?_); refine ⟨w7.heap.size, 36, _, _, _, rfl, rfl, hq9, (by decide), rfl, Tryd.size_u8, ?_⟩; intro W10 hP10 hq10; have HD10 := Lib.hid (hP10.below HD9.out (Nat.le_refl _)); have HB10 := Lib.hid (below_next HB7.out HD10.out); clear hP10 hq9)
    | ((with_reducible refine wp_load_box rfl _ rfl ?_); refine ⟨w7.heap.size, Z.aw2, rfl, hq10, ?_⟩)
    | (go_at_call 12; (with_reducible refine (HL2.out _ (HT.out _ HB10.out)).mono ?_); rintro e w11 ⟨y2, rfl, hown2, hb11⟩; have HB11 := Lib.hid (below_next HB10.out hb11); have HD11 := Lib.hid (below_next HD10.out hb11); have hq11 : PosAt w11 w7.heap.size Z.aw2 := PosAt.below (c := Z.aw2) hq10 hb11; obtain ⟨g2, cap2, rfl, hcp2, hcm2, hg2, hat2⟩ := lst_open Z.aw2 2 _ _ _ aw2_ls.1 (by decide) hown2; have HA2 := Lib.hid (And.intro (hat2 0 _ aw2_ls.2.1) (hat2 1 _ aw2_ls.2.2)); obtain ⟨c0, c1, c2, c3, c4⟩ := (HA1.out.1.below HD11.out).five; obtain ⟨e0, e1, e2, e3, e4⟩ := HA2.out.1.five; clear hown2 hat2 hb11 hq10)
    | fail)
  have hl0 : g0 < w11.heap.size := by have := HC7.out.size; have := HD11.out.size; omega
  have hl1 : g1 < w11.heap.size := by have := HD11.out.size; omega
  have hA0 := (HA0.out.1.below HC7.out).below HD11.out
  have hA5 := (HA0.out.2.below HC7.out).below HD11.out
  have hB7 := HA1.out.2.below HD11.out
  have hC0 := HA2.out.1
  have hC1 := HA2.out.2
  have hlq := hq11.lt
  refine region_below (by kernel_rfl) (by kernel_rfl) ?_
  simp only [List.append]
  repeat (first
    | (go_big_quiet_want; refine quiet_load_box _ rfl ⟨_, _, rfl, hq11, ?_⟩; simp only [Act.put, List.setIfInBounds_toArray, List.set_cons_succ, List.set_cons_zero]; go_big_quiet_on)
    | (go_big_quiet_want; refine quiet_load_atC _ rfl ⟨g0, 0, (1, 16, 0, 0, false), rfl, hA0, ?_⟩; simp only [Act.put, List.setIfInBounds_toArray, List.set_cons_succ, List.set_cons_zero]; go_big_quiet_on)
    | (go_big_quiet_want; refine quiet_load_atC _ rfl ⟨g0, 25, (8, 24, 0, 0, false), rfl, hA5, ?_⟩; simp only [Act.put, List.setIfInBounds_toArray, List.set_cons_succ, List.set_cons_zero]; go_big_quiet_on)
    | (go_big_quiet_want; refine quiet_load_atC _ rfl ⟨g1, 35, (48, 57, 5, 0, false), rfl, hB7, ?_⟩; simp only [Act.put, List.setIfInBounds_toArray, List.set_cons_succ, List.set_cons_zero]; go_big_quiet_on)
    | (go_big_quiet_want; refine quiet_load_atC _ rfl ⟨g2, 0, (36, 43, 0, 0, false), rfl, hC0, ?_⟩; simp only [Act.put, List.setIfInBounds_toArray, List.set_cons_succ, List.set_cons_zero]; go_big_quiet_on)
    | (go_big_quiet_want; refine quiet_load_atC _ rfl ⟨g2, 5, (36, 44, 0, 0, false), rfl, hC1, ?_⟩; simp only [Act.put, List.setIfInBounds_toArray, List.set_cons_succ, List.set_cons_zero]; go_big_quiet_on)
    | go_big_quiet_step (first
      | (go_at_call 32; exact quiet_below (HTk.out _ (tb_grow (HT.out _ HB11.out))))
      | (go_at_call 33; exact quiet_below (HTs.out _ (tb_grow (HT.out _ HB11.out))))))
  refine wpQuiet_nil ?_
  intro w12 hb12
  have HF := Lib.hid (below_next HB11.out hb12)
  clear hb12
  go_wp2
  go_ret
  exact ⟨rfl, HF.out⟩
end Go.Proofs.YtlphjjekamhnlaaDoor
