/- The program's package moves: castles. -/
import Derived.Test.YtldpejeodhkgdaaMvC
namespace Go.Proofs.Ytldpejeodhkgdaa
open Go.RowKit Go.Sort
attribute [local go_sem] Oper.semAt_some

theorem PMv.other {w W W' : World} {g e : Nat} {c : Nat → Int} {m : Array Value} (h : PMv w g c m W) (hP : Put e W W') (he : g + 1 < e) : PMv w g c m W' :=
  ⟨hP.pos h.p (by omega), hP.row h.m (by omega), hP.below h.below (by omega)⟩
theorem mv_load_rowG {P : Program} {ops : Array Oper} {rest : List Oper} {o : Oper} {a : Act} {w : World} {Q : Exit → Act → World → Prop} (hw : Region.wanted o (yielded ops a.tmps) = true) (ty : TypeId) (x : Operand) (ho : o.op = .load ty x) {d : TypeDesc} (hu : P.underlying ty = some d) (hd : (match d with | .struct _ | .array _ _ => true | _ => false) = true)
    (h : ∃ (g : Nat) (T : TypeId) (cs : Array Value), a.eval x = .pointer (some ⟨g, 0, none⟩) ∧ RowAt w g T cs ∧ (P.info? ty).map (·.size) = some cs.size ∧ wpList P ops Q rest (a.put o.dst (.agg cs)) w) : wpList P ops Q (o :: rest) a w := by
  obtain ⟨g, T, cs, hx, hp, hi, h⟩ := h
  refine wpList_step fun K hK => ?_
  rw [if_pos hw]
  exact wp_load_row ty x ho g hx T cs (0, 0) d hp.heap hu hd hi (hK _ _ h)
/-- What castling answers, and whether it is the move. -/
def N.tg (c : Nat → Int) (t k : Nat) : Int := IntKind.i8.wrap ((56 * t : Nat) + c (79 + 2 * t + k))
def N.cok (c : Nat → Int) (k : Nat) : Bool := c 0 != 1 && N.sideOk c k
def N.ceq (c : Nat → Int) (t k f g : Nat) : Bool := (((56 * t + 4 : Nat) : Int), N.tg c t k, (0 : Int), (0 : Int), true) == (((f : Int), (g : Int), 0, 0, true) : Mv)
def N.casO (c : Nat → Int) (t f g : Nat) : ByteArray :=
  if (N.cok c 0 && N.ceq c t 0 f g) = true then N.two f (56 * t + 6) else if (N.cok c 1 && N.ceq c t 1 f g) = true then N.two f (56 * t + 2) else ⟨#[]⟩
theorem Try.idx_goals0 (w : World) : (Instr.index 27 (.agg #[.int .i8 6, .int .i8 2]) (.int .i64 0)).run Try.prog w = .ok (.int .i8 6) w := by kernel_rfl
theorem Try.idx_goals1 (w : World) : (Instr.index 27 (.agg #[.int .i8 6, .int .i8 2]) (.int .i64 1)).run Try.prog w = .ok (.int .i8 2) w := by kernel_rfl

set_option maxRecDepth 100000 in
set_option maxHeartbeats 4000000 in
theorem mvcastles_o0 (c : Nat → Int) (f g : Nat) (w : World) (ht : c 78 = 0) (h0 : c 0 ≠ 1) (hf : f < 64) :
    Calls Try.prog 17 #[.agg (posC c), .agg (movC f g 0 0 true)] w fun e w' => e = .returned (.string (N.casO c 0 f g)) ∧ Below w.heap.size w w' := by
  have hP := PMv.start w c (movC f g 0 0 true)
  have c0 := hP.p.cell (i := 0) (by decide)
  rw [show pk 0 = .u8 from rfl] at c0
  have d0 : (c 0 == 1) = false := by simpa using h0
  have HC0 : Hid (∀ W, Calls Try.prog 19 #[.agg (posC c), .int .i64 0] W fun e w' => e = .returned (.tuple #[.agg (movC 4 (N.tg c 0 0) 0 0 true), .bool (N.cok c 0)]) ∧ Below W.heap.size W w') := Lib.hid (fun W => mvcastling_00 c W ht)
  have HC1 : Hid (∀ W, Calls Try.prog 19 #[.agg (posC c), .int .i64 1] W fun e w' => e = .returned (.tuple #[.agg (movC 4 (N.tg c 0 1) 0 0 true), .bool (N.cok c 1)]) ∧ Below W.heap.size W w') := Lib.hid (fun W => mvcastling_01 c W ht)
  have HHo : Hid (∀ W, Calls Try.prog 33 #[.agg (posC c)] W fun e w' => e = .returned (.int .i8 0) ∧ Below W.heap.size W w') := Lib.hid (fun W => by
    have := mvhome_any c W (by omega)
    rwa [show ((N.home c : Nat) : Int) = 0 by unfold N.home; rw [ht]; rfl] at this)
  have HF : Hid (∀ W, Calls Try.prog 32 #[.int .i8 (f : Int)] W fun e w' => e = .returned (.string (N.tx f)) ∧ Below W.heap.size W w') := Lib.hid (fun W => mvtext_any f W hf)
  have HX : Hid (∀ W, Calls Try.prog 32 #[.int .i8 6] W fun e w' => e = .returned (.string (N.tx 6)) ∧ Below W.heap.size W w') := Lib.hid (fun W => mvtext_any 6 W (by decide))
  have HY : Hid (∀ W, Calls Try.prog 32 #[.int .i8 2] W fun e w' => e = .returned (.string (N.tx 2)) ∧ Below W.heap.size W w') := Lib.hid (fun W => mvtext_any 2 W (by decide))
  have HE := Lib.hid (show N.casO c 0 f g = if (N.cok c 0 && N.ceq c 0 0 f g) = true then N.tx f ++ N.tx 6 else if (N.cok c 1 && N.ceq c 0 1 f g) = true then N.tx f ++ N.tx 2 else ⟨#[]⟩ from rfl)
  have HQ0 := Lib.hid (show (((4 : Int), N.tg c 0 0, (0 : Int), (0 : Int), true) == (((f : Int), (g : Int), 0, 0, true) : Mv)) = N.ceq c 0 0 f g from rfl)
  have HQ1 := Lib.hid (show (((4 : Int), N.tg c 0 1, (0 : Int), (0 : Int), true) == (((f : Int), (g : Int), 0, 0, true) : Mv)) = N.ceq c 0 1 f g from rfl)
  have HSx := Lib.hid (show (N.tx f).size + (N.tx 6).size ≤ 9223372036854775807 from (by decide : 2 + 2 ≤ 9223372036854775807))
  have HSy := Lib.hid (show (N.tx f).size + (N.tx 2).size ≤ 9223372036854775807 from (by decide : 2 + 2 ≤ 9223372036854775807))
  have H0 := Lib.hid hP
  clear hP h0 ht hf
  obtain ⟨tg0, h1⟩ : ∃ x, N.tg c 0 0 = x := ⟨_, rfl⟩
  obtain ⟨tg1, h2⟩ : ∃ x, N.tg c 0 1 = x := ⟨_, rfl⟩
  obtain ⟨b0, h3⟩ : ∃ x, N.cok c 0 = x := ⟨_, rfl⟩
  obtain ⟨b1, h4⟩ : ∃ x, N.cok c 1 = x := ⟨_, rfl⟩
  obtain ⟨e0, h5⟩ : ∃ x, N.ceq c 0 0 f g = x := ⟨_, rfl⟩
  obtain ⟨e1, h6⟩ : ∃ x, N.ceq c 0 1 f g = x := ⟨_, rfl⟩
  obtain ⟨x, h7⟩ : ∃ x, N.tx f = x := ⟨_, rfl⟩
  obtain ⟨y0, h8⟩ : ∃ x, N.tx 6 = x := ⟨_, rfl⟩
  obtain ⟨y1, h9⟩ : ∃ x, N.tx 2 = x := ⟨_, rfl⟩
  obtain ⟨S, hS⟩ : ∃ S, N.casO c 0 f g = S := ⟨_, rfl⟩
  rw [hS] at HE ⊢
  rw [h3, h4, h5, h6, h7, h8, h9] at HE
  rw [h1, h3] at HC0
  rw [h2, h4] at HC1
  rw [h1, h5] at HQ0
  rw [h2, h6] at HQ1
  rw [h7] at HF
  rw [h8] at HX
  rw [h9] at HY
  rw [h7, h8] at HSx
  rw [h7, h9] at HSy
  clear h1 h2 h3 h4 h5 h6 h7 h8 h9 hS
  go_enter Try.func17, Try.ntmps17
  have hi0 := Try.idx_goals0
  have hi1 := Try.idx_goals1
  go_wp2_with (go_at_call 18; (with_reducible refine (mvgoals_any _).mono ?_); rintro e wg ⟨rfl, hbg⟩; have HG := Lib.hid (H0.out.next hbg); clear hbg)
  refine wp_loop_rounds 3 ?_
  rw [rounds_succ]
  cases b0
  · go_wp2_with (first
      | ((with_reducible refine wp_load_box_g rfl _ rfl ?_); refine ⟨_, c, rfl, HG.out.p, ?_⟩)
      | (go_at_call 19; (with_reducible refine (HC0.out _).mono ?_); rintro e wc0 ⟨rfl, hbc⟩; have HK0 := Lib.hid (HG.out.next hbc); clear hbc)
      | ((with_reducible refine wp_store_row' rfl 33 _ _ rfl ?_); refine ⟨wc0.heap.size, 33, movC 4 tg0 0 0 true, rfl, rfl, ⟨_, heap_alloc_new _ _, (by kernel_rfl)⟩, Try.info_mvB _ _ _ _ _, Try.one_mvB _ _ _ _ _, ?_⟩; intro V0 hP hq; have HV0 := Lib.hid (And.intro ((HK0.out.next ((Below.refl _ _).alloc (Nat.le_refl _) _)).other hP HK0.out.m.lt) hq); clear hP hq)
      | ((with_reducible refine mv_load_rowG rfl 33 _ rfl Try.underlying33 rfl ?_); refine ⟨w.heap.size + 1, _, _, rfl, HV0.out.1.m, Try.info_mvB _ _ _ _ _, ?_⟩)
      | ((with_reducible refine mv_load_rowG rfl 33 _ rfl Try.underlying33 rfl ?_); refine ⟨_, _, _, rfl, HV0.out.2, Try.info_mvB _ _ _ _ _, ?_⟩)
      | ((with_reducible refine wpl_eql_mv rfl _ _ _ rfl ?_); refine ⟨(4, tg0, 0, 0, true), ((f : Int), (g : Int), 0, 0, true), rfl, rfl, ?_⟩; rw [HQ0.out]))
    rw [rounds_succ]
    cases b1
    · have E := Lib.hid (show S = ⟨#[]⟩ by rw [HE.out]; rfl)
      clear HE
      go_wp2_with (first
        | ((with_reducible refine wp_load_box_g rfl _ rfl ?_); refine ⟨_, c, rfl, HV0.out.1.p, ?_⟩)
        | (go_at_call 19; (with_reducible refine (HC1.out _).mono ?_); rintro e wc1 ⟨rfl, hbc⟩; have HK1 := Lib.hid (HV0.out.1.next hbc); clear hbc)
        | ((with_reducible refine wp_store_row' rfl 33 _ _ rfl ?_); refine ⟨wc1.heap.size, 33, movC 4 tg1 0 0 true, rfl, rfl, ⟨_, heap_alloc_new _ _, (by kernel_rfl)⟩, Try.info_mvB _ _ _ _ _, Try.one_mvB _ _ _ _ _, ?_⟩; intro V1 hP hq; have HV1 := Lib.hid (And.intro ((HK1.out.next ((Below.refl _ _).alloc (Nat.le_refl _) _)).other hP HK1.out.m.lt) hq); clear hP hq)
        | ((with_reducible refine mv_load_rowG rfl 33 _ rfl Try.underlying33 rfl ?_); refine ⟨w.heap.size + 1, _, _, rfl, HV1.out.1.m, Try.info_mvB _ _ _ _ _, ?_⟩)
        | ((with_reducible refine mv_load_rowG rfl 33 _ rfl Try.underlying33 rfl ?_); refine ⟨_, _, _, rfl, HV1.out.2, Try.info_mvB _ _ _ _ _, ?_⟩)
        | ((with_reducible refine wpl_eql_mv rfl _ _ _ rfl ?_); refine ⟨(4, tg1, 0, 0, true), ((f : Int), (g : Int), 0, 0, true), rfl, rfl, ?_⟩; rw [HQ1.out]))
      rw [rounds_succ]
      go_wp2
      go_ret
      exact ⟨by rw [E.out]; rfl, HV1.out.1.below⟩
    cases e1
    · have E := Lib.hid (show S = ⟨#[]⟩ by rw [HE.out]; rfl)
      clear HE
      go_wp2_with (first
        | ((with_reducible refine wp_load_box_g rfl _ rfl ?_); refine ⟨_, c, rfl, HV0.out.1.p, ?_⟩)
        | (go_at_call 19; (with_reducible refine (HC1.out _).mono ?_); rintro e wc1 ⟨rfl, hbc⟩; have HK1 := Lib.hid (HV0.out.1.next hbc); clear hbc)
        | ((with_reducible refine wp_store_row' rfl 33 _ _ rfl ?_); refine ⟨wc1.heap.size, 33, movC 4 tg1 0 0 true, rfl, rfl, ⟨_, heap_alloc_new _ _, (by kernel_rfl)⟩, Try.info_mvB _ _ _ _ _, Try.one_mvB _ _ _ _ _, ?_⟩; intro V1 hP hq; have HV1 := Lib.hid (And.intro ((HK1.out.next ((Below.refl _ _).alloc (Nat.le_refl _) _)).other hP HK1.out.m.lt) hq); clear hP hq)
        | ((with_reducible refine mv_load_rowG rfl 33 _ rfl Try.underlying33 rfl ?_); refine ⟨w.heap.size + 1, _, _, rfl, HV1.out.1.m, Try.info_mvB _ _ _ _ _, ?_⟩)
        | ((with_reducible refine mv_load_rowG rfl 33 _ rfl Try.underlying33 rfl ?_); refine ⟨_, _, _, rfl, HV1.out.2, Try.info_mvB _ _ _ _ _, ?_⟩)
        | ((with_reducible refine wpl_eql_mv rfl _ _ _ rfl ?_); refine ⟨(4, tg1, 0, 0, true), ((f : Int), (g : Int), 0, 0, true), rfl, rfl, ?_⟩; rw [HQ1.out]))
      rw [rounds_succ]
      go_wp2
      go_ret
      exact ⟨by rw [E.out]; rfl, HV1.out.1.below⟩
    · have E := Lib.hid (show S = x ++ y1 by rw [HE.out]; rfl)
      clear HE
      go_upto_region 10 with (first
        | ((with_reducible refine wp_load_box_g rfl _ rfl ?_); refine ⟨_, c, rfl, HV0.out.1.p, ?_⟩)
        | (go_at_call 19; (with_reducible refine (HC1.out _).mono ?_); rintro e wc1 ⟨rfl, hbc⟩; have HK1 := Lib.hid (HV0.out.1.next hbc); clear hbc)
        | ((with_reducible refine wp_store_row' rfl 33 _ _ rfl ?_); refine ⟨wc1.heap.size, 33, movC 4 tg1 0 0 true, rfl, rfl, ⟨_, heap_alloc_new _ _, (by kernel_rfl)⟩, Try.info_mvB _ _ _ _ _, Try.one_mvB _ _ _ _ _, ?_⟩; intro V1 hP hq; have HV1 := Lib.hid (And.intro ((HK1.out.next ((Below.refl _ _).alloc (Nat.le_refl _) _)).other hP HK1.out.m.lt) hq); clear hP hq)
        | ((with_reducible refine mv_load_rowG rfl 33 _ rfl Try.underlying33 rfl ?_); refine ⟨w.heap.size + 1, _, _, rfl, HV1.out.1.m, Try.info_mvB _ _ _ _ _, ?_⟩)
        | ((with_reducible refine mv_load_rowG rfl 33 _ rfl Try.underlying33 rfl ?_); refine ⟨_, _, _, rfl, HV1.out.2, Try.info_mvB _ _ _ _ _, ?_⟩)
        | ((with_reducible refine wpl_eql_mv rfl _ _ _ rfl ?_); refine ⟨(4, tg1, 0, 0, true), ((f : Int), (g : Int), 0, 0, true), rfl, rfl, ?_⟩; rw [HQ1.out]))
      have q0 := HV1.out.1.m.cell 0
      rw [show (movC f g 0 0 true)[0]? = some (.int .i8 (f : Int)) from rfl] at q0
      have lb2 := HV1.out.1.m.lt
      refine region_below (by kernel_rfl) (by kernel_rfl) ?_
      try simp only [Act.put]
      repeat (first
        | (go_big_quiet_want; refine quiet_load_mvp _ rfl ⟨_, c, rfl, HV1.out.1.p, ?_⟩; simp only [Act.put, List.setIfInBounds_toArray, List.set_cons_succ, List.set_cons_zero]; go_big_quiet_on)
        | (go_big_quiet_want; refine quiet_cat _ _ _ rfl ⟨x, y1, rfl, rfl, HSy.out, ?_⟩; simp only [Act.put, List.setIfInBounds_toArray, List.set_cons_succ, List.set_cons_zero]; go_big_quiet_on)
        | go_big_quiet_step (first
          | (go_at_call 32; (with_reducible exact quiet_below (HF.out _)))
          | (go_at_call 33; (with_reducible exact quiet_below (HHo.out _)))
          | (go_at_call 32; (with_reducible exact quiet_below (HY.out _)))))
      refine wpQuiet_nil ?_
      intro w9 hb9
      have H9 := Lib.hid (HV1.out.1.next hb9)
      clear hb9
      go_wp2
      go_ret
      exact ⟨by rw [E.out]; rfl, H9.out.below⟩
  cases e0
  · go_wp2_with (first
      | ((with_reducible refine wp_load_box_g rfl _ rfl ?_); refine ⟨_, c, rfl, HG.out.p, ?_⟩)
      | (go_at_call 19; (with_reducible refine (HC0.out _).mono ?_); rintro e wc0 ⟨rfl, hbc⟩; have HK0 := Lib.hid (HG.out.next hbc); clear hbc)
      | ((with_reducible refine wp_store_row' rfl 33 _ _ rfl ?_); refine ⟨wc0.heap.size, 33, movC 4 tg0 0 0 true, rfl, rfl, ⟨_, heap_alloc_new _ _, (by kernel_rfl)⟩, Try.info_mvB _ _ _ _ _, Try.one_mvB _ _ _ _ _, ?_⟩; intro V0 hP hq; have HV0 := Lib.hid (And.intro ((HK0.out.next ((Below.refl _ _).alloc (Nat.le_refl _) _)).other hP HK0.out.m.lt) hq); clear hP hq)
      | ((with_reducible refine mv_load_rowG rfl 33 _ rfl Try.underlying33 rfl ?_); refine ⟨w.heap.size + 1, _, _, rfl, HV0.out.1.m, Try.info_mvB _ _ _ _ _, ?_⟩)
      | ((with_reducible refine mv_load_rowG rfl 33 _ rfl Try.underlying33 rfl ?_); refine ⟨_, _, _, rfl, HV0.out.2, Try.info_mvB _ _ _ _ _, ?_⟩)
      | ((with_reducible refine wpl_eql_mv rfl _ _ _ rfl ?_); refine ⟨(4, tg0, 0, 0, true), ((f : Int), (g : Int), 0, 0, true), rfl, rfl, ?_⟩; rw [HQ0.out]))
    rw [rounds_succ]
    cases b1
    · have E := Lib.hid (show S = ⟨#[]⟩ by rw [HE.out]; rfl)
      clear HE
      go_wp2_with (first
        | ((with_reducible refine wp_load_box_g rfl _ rfl ?_); refine ⟨_, c, rfl, HV0.out.1.p, ?_⟩)
        | (go_at_call 19; (with_reducible refine (HC1.out _).mono ?_); rintro e wc1 ⟨rfl, hbc⟩; have HK1 := Lib.hid (HV0.out.1.next hbc); clear hbc)
        | ((with_reducible refine wp_store_row' rfl 33 _ _ rfl ?_); refine ⟨wc1.heap.size, 33, movC 4 tg1 0 0 true, rfl, rfl, ⟨_, heap_alloc_new _ _, (by kernel_rfl)⟩, Try.info_mvB _ _ _ _ _, Try.one_mvB _ _ _ _ _, ?_⟩; intro V1 hP hq; have HV1 := Lib.hid (And.intro ((HK1.out.next ((Below.refl _ _).alloc (Nat.le_refl _) _)).other hP HK1.out.m.lt) hq); clear hP hq)
        | ((with_reducible refine mv_load_rowG rfl 33 _ rfl Try.underlying33 rfl ?_); refine ⟨w.heap.size + 1, _, _, rfl, HV1.out.1.m, Try.info_mvB _ _ _ _ _, ?_⟩)
        | ((with_reducible refine mv_load_rowG rfl 33 _ rfl Try.underlying33 rfl ?_); refine ⟨_, _, _, rfl, HV1.out.2, Try.info_mvB _ _ _ _ _, ?_⟩)
        | ((with_reducible refine wpl_eql_mv rfl _ _ _ rfl ?_); refine ⟨(4, tg1, 0, 0, true), ((f : Int), (g : Int), 0, 0, true), rfl, rfl, ?_⟩; rw [HQ1.out]))
      rw [rounds_succ]
      go_wp2
      go_ret
      exact ⟨by rw [E.out]; rfl, HV1.out.1.below⟩
    cases e1
    · have E := Lib.hid (show S = ⟨#[]⟩ by rw [HE.out]; rfl)
      clear HE
      go_wp2_with (first
        | ((with_reducible refine wp_load_box_g rfl _ rfl ?_); refine ⟨_, c, rfl, HV0.out.1.p, ?_⟩)
        | (go_at_call 19; (with_reducible refine (HC1.out _).mono ?_); rintro e wc1 ⟨rfl, hbc⟩; have HK1 := Lib.hid (HV0.out.1.next hbc); clear hbc)
        | ((with_reducible refine wp_store_row' rfl 33 _ _ rfl ?_); refine ⟨wc1.heap.size, 33, movC 4 tg1 0 0 true, rfl, rfl, ⟨_, heap_alloc_new _ _, (by kernel_rfl)⟩, Try.info_mvB _ _ _ _ _, Try.one_mvB _ _ _ _ _, ?_⟩; intro V1 hP hq; have HV1 := Lib.hid (And.intro ((HK1.out.next ((Below.refl _ _).alloc (Nat.le_refl _) _)).other hP HK1.out.m.lt) hq); clear hP hq)
        | ((with_reducible refine mv_load_rowG rfl 33 _ rfl Try.underlying33 rfl ?_); refine ⟨w.heap.size + 1, _, _, rfl, HV1.out.1.m, Try.info_mvB _ _ _ _ _, ?_⟩)
        | ((with_reducible refine mv_load_rowG rfl 33 _ rfl Try.underlying33 rfl ?_); refine ⟨_, _, _, rfl, HV1.out.2, Try.info_mvB _ _ _ _ _, ?_⟩)
        | ((with_reducible refine wpl_eql_mv rfl _ _ _ rfl ?_); refine ⟨(4, tg1, 0, 0, true), ((f : Int), (g : Int), 0, 0, true), rfl, rfl, ?_⟩; rw [HQ1.out]))
      rw [rounds_succ]
      go_wp2
      go_ret
      exact ⟨by rw [E.out]; rfl, HV1.out.1.below⟩
    · have E := Lib.hid (show S = x ++ y1 by rw [HE.out]; rfl)
      clear HE
      go_upto_region 10 with (first
        | ((with_reducible refine wp_load_box_g rfl _ rfl ?_); refine ⟨_, c, rfl, HV0.out.1.p, ?_⟩)
        | (go_at_call 19; (with_reducible refine (HC1.out _).mono ?_); rintro e wc1 ⟨rfl, hbc⟩; have HK1 := Lib.hid (HV0.out.1.next hbc); clear hbc)
        | ((with_reducible refine wp_store_row' rfl 33 _ _ rfl ?_); refine ⟨wc1.heap.size, 33, movC 4 tg1 0 0 true, rfl, rfl, ⟨_, heap_alloc_new _ _, (by kernel_rfl)⟩, Try.info_mvB _ _ _ _ _, Try.one_mvB _ _ _ _ _, ?_⟩; intro V1 hP hq; have HV1 := Lib.hid (And.intro ((HK1.out.next ((Below.refl _ _).alloc (Nat.le_refl _) _)).other hP HK1.out.m.lt) hq); clear hP hq)
        | ((with_reducible refine mv_load_rowG rfl 33 _ rfl Try.underlying33 rfl ?_); refine ⟨w.heap.size + 1, _, _, rfl, HV1.out.1.m, Try.info_mvB _ _ _ _ _, ?_⟩)
        | ((with_reducible refine mv_load_rowG rfl 33 _ rfl Try.underlying33 rfl ?_); refine ⟨_, _, _, rfl, HV1.out.2, Try.info_mvB _ _ _ _ _, ?_⟩)
        | ((with_reducible refine wpl_eql_mv rfl _ _ _ rfl ?_); refine ⟨(4, tg1, 0, 0, true), ((f : Int), (g : Int), 0, 0, true), rfl, rfl, ?_⟩; rw [HQ1.out]))
      have q0 := HV1.out.1.m.cell 0
      rw [show (movC f g 0 0 true)[0]? = some (.int .i8 (f : Int)) from rfl] at q0
      have lb2 := HV1.out.1.m.lt
      refine region_below (by kernel_rfl) (by kernel_rfl) ?_
      try simp only [Act.put]
      repeat (first
        | (go_big_quiet_want; refine quiet_load_mvp _ rfl ⟨_, c, rfl, HV1.out.1.p, ?_⟩; simp only [Act.put, List.setIfInBounds_toArray, List.set_cons_succ, List.set_cons_zero]; go_big_quiet_on)
        | (go_big_quiet_want; refine quiet_cat _ _ _ rfl ⟨x, y1, rfl, rfl, HSy.out, ?_⟩; simp only [Act.put, List.setIfInBounds_toArray, List.set_cons_succ, List.set_cons_zero]; go_big_quiet_on)
        | go_big_quiet_step (first
          | (go_at_call 32; (with_reducible exact quiet_below (HF.out _)))
          | (go_at_call 33; (with_reducible exact quiet_below (HHo.out _)))
          | (go_at_call 32; (with_reducible exact quiet_below (HY.out _)))))
      refine wpQuiet_nil ?_
      intro w9 hb9
      have H9 := Lib.hid (HV1.out.1.next hb9)
      clear hb9
      go_wp2
      go_ret
      exact ⟨by rw [E.out]; rfl, H9.out.below⟩
  · have E := Lib.hid (show S = x ++ y0 by rw [HE.out]; rfl)
    clear HE
    go_upto_region 10 with (first
      | ((with_reducible refine wp_load_box_g rfl _ rfl ?_); refine ⟨_, c, rfl, HG.out.p, ?_⟩)
      | (go_at_call 19; (with_reducible refine (HC0.out _).mono ?_); rintro e wc0 ⟨rfl, hbc⟩; have HK0 := Lib.hid (HG.out.next hbc); clear hbc)
      | ((with_reducible refine wp_store_row' rfl 33 _ _ rfl ?_); refine ⟨wc0.heap.size, 33, movC 4 tg0 0 0 true, rfl, rfl, ⟨_, heap_alloc_new _ _, (by kernel_rfl)⟩, Try.info_mvB _ _ _ _ _, Try.one_mvB _ _ _ _ _, ?_⟩; intro V0 hP hq; have HV0 := Lib.hid (And.intro ((HK0.out.next ((Below.refl _ _).alloc (Nat.le_refl _) _)).other hP HK0.out.m.lt) hq); clear hP hq)
      | ((with_reducible refine mv_load_rowG rfl 33 _ rfl Try.underlying33 rfl ?_); refine ⟨w.heap.size + 1, _, _, rfl, HV0.out.1.m, Try.info_mvB _ _ _ _ _, ?_⟩)
      | ((with_reducible refine mv_load_rowG rfl 33 _ rfl Try.underlying33 rfl ?_); refine ⟨_, _, _, rfl, HV0.out.2, Try.info_mvB _ _ _ _ _, ?_⟩)
      | ((with_reducible refine wpl_eql_mv rfl _ _ _ rfl ?_); refine ⟨(4, tg0, 0, 0, true), ((f : Int), (g : Int), 0, 0, true), rfl, rfl, ?_⟩; rw [HQ0.out]))
    have q0 := HV0.out.1.m.cell 0
    rw [show (movC f g 0 0 true)[0]? = some (.int .i8 (f : Int)) from rfl] at q0
    have lb2 := HV0.out.1.m.lt
    refine region_below (by kernel_rfl) (by kernel_rfl) ?_
    try simp only [Act.put]
    repeat (first
      | (go_big_quiet_want; refine quiet_load_mvp _ rfl ⟨_, c, rfl, HV0.out.1.p, ?_⟩; simp only [Act.put, List.setIfInBounds_toArray, List.set_cons_succ, List.set_cons_zero]; go_big_quiet_on)
      | (go_big_quiet_want; refine quiet_cat _ _ _ rfl ⟨x, y0, rfl, rfl, HSx.out, ?_⟩; simp only [Act.put, List.setIfInBounds_toArray, List.set_cons_succ, List.set_cons_zero]; go_big_quiet_on)
      | go_big_quiet_step (first
        | (go_at_call 32; (with_reducible exact quiet_below (HF.out _)))
        | (go_at_call 33; (with_reducible exact quiet_below (HHo.out _)))
        | (go_at_call 32; (with_reducible exact quiet_below (HX.out _)))))
    refine wpQuiet_nil ?_
    intro w9 hb9
    have H9 := Lib.hid (HV0.out.1.next hb9)
    clear hb9
    go_wp2
    go_ret
    exact ⟨by rw [E.out]; rfl, H9.out.below⟩

set_option maxRecDepth 100000 in
set_option maxHeartbeats 4000000 in
theorem mvcastles_o1 (c : Nat → Int) (f g : Nat) (w : World) (ht : c 78 = 1) (h0 : c 0 ≠ 1) (hf : f < 64) :
    Calls Try.prog 17 #[.agg (posC c), .agg (movC f g 0 0 true)] w fun e w' => e = .returned (.string (N.casO c 1 f g)) ∧ Below w.heap.size w w' := by
  have hP := PMv.start w c (movC f g 0 0 true)
  have c0 := hP.p.cell (i := 0) (by decide)
  rw [show pk 0 = .u8 from rfl] at c0
  have d0 : (c 0 == 1) = false := by simpa using h0
  have HC0 : Hid (∀ W, Calls Try.prog 19 #[.agg (posC c), .int .i64 0] W fun e w' => e = .returned (.tuple #[.agg (movC 60 (N.tg c 1 0) 0 0 true), .bool (N.cok c 0)]) ∧ Below W.heap.size W w') := Lib.hid (fun W => mvcastling_10 c W ht)
  have HC1 : Hid (∀ W, Calls Try.prog 19 #[.agg (posC c), .int .i64 1] W fun e w' => e = .returned (.tuple #[.agg (movC 60 (N.tg c 1 1) 0 0 true), .bool (N.cok c 1)]) ∧ Below W.heap.size W w') := Lib.hid (fun W => mvcastling_11 c W ht)
  have HHo : Hid (∀ W, Calls Try.prog 33 #[.agg (posC c)] W fun e w' => e = .returned (.int .i8 56) ∧ Below W.heap.size W w') := Lib.hid (fun W => by
    have := mvhome_any c W (by omega)
    rwa [show ((N.home c : Nat) : Int) = 56 by unfold N.home; rw [ht]; rfl] at this)
  have HF : Hid (∀ W, Calls Try.prog 32 #[.int .i8 (f : Int)] W fun e w' => e = .returned (.string (N.tx f)) ∧ Below W.heap.size W w') := Lib.hid (fun W => mvtext_any f W hf)
  have HX : Hid (∀ W, Calls Try.prog 32 #[.int .i8 62] W fun e w' => e = .returned (.string (N.tx 62)) ∧ Below W.heap.size W w') := Lib.hid (fun W => mvtext_any 62 W (by decide))
  have HY : Hid (∀ W, Calls Try.prog 32 #[.int .i8 58] W fun e w' => e = .returned (.string (N.tx 58)) ∧ Below W.heap.size W w') := Lib.hid (fun W => mvtext_any 58 W (by decide))
  have HE := Lib.hid (show N.casO c 1 f g = if (N.cok c 0 && N.ceq c 1 0 f g) = true then N.tx f ++ N.tx 62 else if (N.cok c 1 && N.ceq c 1 1 f g) = true then N.tx f ++ N.tx 58 else ⟨#[]⟩ from rfl)
  have HQ0 := Lib.hid (show (((60 : Int), N.tg c 1 0, (0 : Int), (0 : Int), true) == (((f : Int), (g : Int), 0, 0, true) : Mv)) = N.ceq c 1 0 f g from rfl)
  have HQ1 := Lib.hid (show (((60 : Int), N.tg c 1 1, (0 : Int), (0 : Int), true) == (((f : Int), (g : Int), 0, 0, true) : Mv)) = N.ceq c 1 1 f g from rfl)
  have HSx := Lib.hid (show (N.tx f).size + (N.tx 62).size ≤ 9223372036854775807 from (by decide : 2 + 2 ≤ 9223372036854775807))
  have HSy := Lib.hid (show (N.tx f).size + (N.tx 58).size ≤ 9223372036854775807 from (by decide : 2 + 2 ≤ 9223372036854775807))
  have H0 := Lib.hid hP
  clear hP h0 ht hf
  obtain ⟨tg0, h1⟩ : ∃ x, N.tg c 1 0 = x := ⟨_, rfl⟩
  obtain ⟨tg1, h2⟩ : ∃ x, N.tg c 1 1 = x := ⟨_, rfl⟩
  obtain ⟨b0, h3⟩ : ∃ x, N.cok c 0 = x := ⟨_, rfl⟩
  obtain ⟨b1, h4⟩ : ∃ x, N.cok c 1 = x := ⟨_, rfl⟩
  obtain ⟨e0, h5⟩ : ∃ x, N.ceq c 1 0 f g = x := ⟨_, rfl⟩
  obtain ⟨e1, h6⟩ : ∃ x, N.ceq c 1 1 f g = x := ⟨_, rfl⟩
  obtain ⟨x, h7⟩ : ∃ x, N.tx f = x := ⟨_, rfl⟩
  obtain ⟨y0, h8⟩ : ∃ x, N.tx 62 = x := ⟨_, rfl⟩
  obtain ⟨y1, h9⟩ : ∃ x, N.tx 58 = x := ⟨_, rfl⟩
  obtain ⟨S, hS⟩ : ∃ S, N.casO c 1 f g = S := ⟨_, rfl⟩
  rw [hS] at HE ⊢
  rw [h3, h4, h5, h6, h7, h8, h9] at HE
  rw [h1, h3] at HC0
  rw [h2, h4] at HC1
  rw [h1, h5] at HQ0
  rw [h2, h6] at HQ1
  rw [h7] at HF
  rw [h8] at HX
  rw [h9] at HY
  rw [h7, h8] at HSx
  rw [h7, h9] at HSy
  clear h1 h2 h3 h4 h5 h6 h7 h8 h9 hS
  go_enter Try.func17, Try.ntmps17
  have hi0 := Try.idx_goals0
  have hi1 := Try.idx_goals1
  go_wp2_with (go_at_call 18; (with_reducible refine (mvgoals_any _).mono ?_); rintro e wg ⟨rfl, hbg⟩; have HG := Lib.hid (H0.out.next hbg); clear hbg)
  refine wp_loop_rounds 3 ?_
  rw [rounds_succ]
  cases b0
  · go_wp2_with (first
      | ((with_reducible refine wp_load_box_g rfl _ rfl ?_); refine ⟨_, c, rfl, HG.out.p, ?_⟩)
      | (go_at_call 19; (with_reducible refine (HC0.out _).mono ?_); rintro e wc0 ⟨rfl, hbc⟩; have HK0 := Lib.hid (HG.out.next hbc); clear hbc)
      | ((with_reducible refine wp_store_row' rfl 33 _ _ rfl ?_); refine ⟨wc0.heap.size, 33, movC 60 tg0 0 0 true, rfl, rfl, ⟨_, heap_alloc_new _ _, (by kernel_rfl)⟩, Try.info_mvB _ _ _ _ _, Try.one_mvB _ _ _ _ _, ?_⟩; intro V0 hP hq; have HV0 := Lib.hid (And.intro ((HK0.out.next ((Below.refl _ _).alloc (Nat.le_refl _) _)).other hP HK0.out.m.lt) hq); clear hP hq)
      | ((with_reducible refine mv_load_rowG rfl 33 _ rfl Try.underlying33 rfl ?_); refine ⟨w.heap.size + 1, _, _, rfl, HV0.out.1.m, Try.info_mvB _ _ _ _ _, ?_⟩)
      | ((with_reducible refine mv_load_rowG rfl 33 _ rfl Try.underlying33 rfl ?_); refine ⟨_, _, _, rfl, HV0.out.2, Try.info_mvB _ _ _ _ _, ?_⟩)
      | ((with_reducible refine wpl_eql_mv rfl _ _ _ rfl ?_); refine ⟨(60, tg0, 0, 0, true), ((f : Int), (g : Int), 0, 0, true), rfl, rfl, ?_⟩; rw [HQ0.out]))
    rw [rounds_succ]
    cases b1
    · have E := Lib.hid (show S = ⟨#[]⟩ by rw [HE.out]; rfl)
      clear HE
      go_wp2_with (first
        | ((with_reducible refine wp_load_box_g rfl _ rfl ?_); refine ⟨_, c, rfl, HV0.out.1.p, ?_⟩)
        | (go_at_call 19; (with_reducible refine (HC1.out _).mono ?_); rintro e wc1 ⟨rfl, hbc⟩; have HK1 := Lib.hid (HV0.out.1.next hbc); clear hbc)
        | ((with_reducible refine wp_store_row' rfl 33 _ _ rfl ?_); refine ⟨wc1.heap.size, 33, movC 60 tg1 0 0 true, rfl, rfl, ⟨_, heap_alloc_new _ _, (by kernel_rfl)⟩, Try.info_mvB _ _ _ _ _, Try.one_mvB _ _ _ _ _, ?_⟩; intro V1 hP hq; have HV1 := Lib.hid (And.intro ((HK1.out.next ((Below.refl _ _).alloc (Nat.le_refl _) _)).other hP HK1.out.m.lt) hq); clear hP hq)
        | ((with_reducible refine mv_load_rowG rfl 33 _ rfl Try.underlying33 rfl ?_); refine ⟨w.heap.size + 1, _, _, rfl, HV1.out.1.m, Try.info_mvB _ _ _ _ _, ?_⟩)
        | ((with_reducible refine mv_load_rowG rfl 33 _ rfl Try.underlying33 rfl ?_); refine ⟨_, _, _, rfl, HV1.out.2, Try.info_mvB _ _ _ _ _, ?_⟩)
        | ((with_reducible refine wpl_eql_mv rfl _ _ _ rfl ?_); refine ⟨(60, tg1, 0, 0, true), ((f : Int), (g : Int), 0, 0, true), rfl, rfl, ?_⟩; rw [HQ1.out]))
      rw [rounds_succ]
      go_wp2
      go_ret
      exact ⟨by rw [E.out]; rfl, HV1.out.1.below⟩
    cases e1
    · have E := Lib.hid (show S = ⟨#[]⟩ by rw [HE.out]; rfl)
      clear HE
      go_wp2_with (first
        | ((with_reducible refine wp_load_box_g rfl _ rfl ?_); refine ⟨_, c, rfl, HV0.out.1.p, ?_⟩)
        | (go_at_call 19; (with_reducible refine (HC1.out _).mono ?_); rintro e wc1 ⟨rfl, hbc⟩; have HK1 := Lib.hid (HV0.out.1.next hbc); clear hbc)
        | ((with_reducible refine wp_store_row' rfl 33 _ _ rfl ?_); refine ⟨wc1.heap.size, 33, movC 60 tg1 0 0 true, rfl, rfl, ⟨_, heap_alloc_new _ _, (by kernel_rfl)⟩, Try.info_mvB _ _ _ _ _, Try.one_mvB _ _ _ _ _, ?_⟩; intro V1 hP hq; have HV1 := Lib.hid (And.intro ((HK1.out.next ((Below.refl _ _).alloc (Nat.le_refl _) _)).other hP HK1.out.m.lt) hq); clear hP hq)
        | ((with_reducible refine mv_load_rowG rfl 33 _ rfl Try.underlying33 rfl ?_); refine ⟨w.heap.size + 1, _, _, rfl, HV1.out.1.m, Try.info_mvB _ _ _ _ _, ?_⟩)
        | ((with_reducible refine mv_load_rowG rfl 33 _ rfl Try.underlying33 rfl ?_); refine ⟨_, _, _, rfl, HV1.out.2, Try.info_mvB _ _ _ _ _, ?_⟩)
        | ((with_reducible refine wpl_eql_mv rfl _ _ _ rfl ?_); refine ⟨(60, tg1, 0, 0, true), ((f : Int), (g : Int), 0, 0, true), rfl, rfl, ?_⟩; rw [HQ1.out]))
      rw [rounds_succ]
      go_wp2
      go_ret
      exact ⟨by rw [E.out]; rfl, HV1.out.1.below⟩
    · have E := Lib.hid (show S = x ++ y1 by rw [HE.out]; rfl)
      clear HE
      go_upto_region 10 with (first
        | ((with_reducible refine wp_load_box_g rfl _ rfl ?_); refine ⟨_, c, rfl, HV0.out.1.p, ?_⟩)
        | (go_at_call 19; (with_reducible refine (HC1.out _).mono ?_); rintro e wc1 ⟨rfl, hbc⟩; have HK1 := Lib.hid (HV0.out.1.next hbc); clear hbc)
        | ((with_reducible refine wp_store_row' rfl 33 _ _ rfl ?_); refine ⟨wc1.heap.size, 33, movC 60 tg1 0 0 true, rfl, rfl, ⟨_, heap_alloc_new _ _, (by kernel_rfl)⟩, Try.info_mvB _ _ _ _ _, Try.one_mvB _ _ _ _ _, ?_⟩; intro V1 hP hq; have HV1 := Lib.hid (And.intro ((HK1.out.next ((Below.refl _ _).alloc (Nat.le_refl _) _)).other hP HK1.out.m.lt) hq); clear hP hq)
        | ((with_reducible refine mv_load_rowG rfl 33 _ rfl Try.underlying33 rfl ?_); refine ⟨w.heap.size + 1, _, _, rfl, HV1.out.1.m, Try.info_mvB _ _ _ _ _, ?_⟩)
        | ((with_reducible refine mv_load_rowG rfl 33 _ rfl Try.underlying33 rfl ?_); refine ⟨_, _, _, rfl, HV1.out.2, Try.info_mvB _ _ _ _ _, ?_⟩)
        | ((with_reducible refine wpl_eql_mv rfl _ _ _ rfl ?_); refine ⟨(60, tg1, 0, 0, true), ((f : Int), (g : Int), 0, 0, true), rfl, rfl, ?_⟩; rw [HQ1.out]))
      have q0 := HV1.out.1.m.cell 0
      rw [show (movC f g 0 0 true)[0]? = some (.int .i8 (f : Int)) from rfl] at q0
      have lb2 := HV1.out.1.m.lt
      refine region_below (by kernel_rfl) (by kernel_rfl) ?_
      try simp only [Act.put]
      repeat (first
        | (go_big_quiet_want; refine quiet_load_mvp _ rfl ⟨_, c, rfl, HV1.out.1.p, ?_⟩; simp only [Act.put, List.setIfInBounds_toArray, List.set_cons_succ, List.set_cons_zero]; go_big_quiet_on)
        | (go_big_quiet_want; refine quiet_cat _ _ _ rfl ⟨x, y1, rfl, rfl, HSy.out, ?_⟩; simp only [Act.put, List.setIfInBounds_toArray, List.set_cons_succ, List.set_cons_zero]; go_big_quiet_on)
        | go_big_quiet_step (first
          | (go_at_call 32; (with_reducible exact quiet_below (HF.out _)))
          | (go_at_call 33; (with_reducible exact quiet_below (HHo.out _)))
          | (go_at_call 32; (with_reducible exact quiet_below (HY.out _)))))
      refine wpQuiet_nil ?_
      intro w9 hb9
      have H9 := Lib.hid (HV1.out.1.next hb9)
      clear hb9
      go_wp2
      go_ret
      exact ⟨by rw [E.out]; rfl, H9.out.below⟩
  cases e0
  · go_wp2_with (first
      | ((with_reducible refine wp_load_box_g rfl _ rfl ?_); refine ⟨_, c, rfl, HG.out.p, ?_⟩)
      | (go_at_call 19; (with_reducible refine (HC0.out _).mono ?_); rintro e wc0 ⟨rfl, hbc⟩; have HK0 := Lib.hid (HG.out.next hbc); clear hbc)
      | ((with_reducible refine wp_store_row' rfl 33 _ _ rfl ?_); refine ⟨wc0.heap.size, 33, movC 60 tg0 0 0 true, rfl, rfl, ⟨_, heap_alloc_new _ _, (by kernel_rfl)⟩, Try.info_mvB _ _ _ _ _, Try.one_mvB _ _ _ _ _, ?_⟩; intro V0 hP hq; have HV0 := Lib.hid (And.intro ((HK0.out.next ((Below.refl _ _).alloc (Nat.le_refl _) _)).other hP HK0.out.m.lt) hq); clear hP hq)
      | ((with_reducible refine mv_load_rowG rfl 33 _ rfl Try.underlying33 rfl ?_); refine ⟨w.heap.size + 1, _, _, rfl, HV0.out.1.m, Try.info_mvB _ _ _ _ _, ?_⟩)
      | ((with_reducible refine mv_load_rowG rfl 33 _ rfl Try.underlying33 rfl ?_); refine ⟨_, _, _, rfl, HV0.out.2, Try.info_mvB _ _ _ _ _, ?_⟩)
      | ((with_reducible refine wpl_eql_mv rfl _ _ _ rfl ?_); refine ⟨(60, tg0, 0, 0, true), ((f : Int), (g : Int), 0, 0, true), rfl, rfl, ?_⟩; rw [HQ0.out]))
    rw [rounds_succ]
    cases b1
    · have E := Lib.hid (show S = ⟨#[]⟩ by rw [HE.out]; rfl)
      clear HE
      go_wp2_with (first
        | ((with_reducible refine wp_load_box_g rfl _ rfl ?_); refine ⟨_, c, rfl, HV0.out.1.p, ?_⟩)
        | (go_at_call 19; (with_reducible refine (HC1.out _).mono ?_); rintro e wc1 ⟨rfl, hbc⟩; have HK1 := Lib.hid (HV0.out.1.next hbc); clear hbc)
        | ((with_reducible refine wp_store_row' rfl 33 _ _ rfl ?_); refine ⟨wc1.heap.size, 33, movC 60 tg1 0 0 true, rfl, rfl, ⟨_, heap_alloc_new _ _, (by kernel_rfl)⟩, Try.info_mvB _ _ _ _ _, Try.one_mvB _ _ _ _ _, ?_⟩; intro V1 hP hq; have HV1 := Lib.hid (And.intro ((HK1.out.next ((Below.refl _ _).alloc (Nat.le_refl _) _)).other hP HK1.out.m.lt) hq); clear hP hq)
        | ((with_reducible refine mv_load_rowG rfl 33 _ rfl Try.underlying33 rfl ?_); refine ⟨w.heap.size + 1, _, _, rfl, HV1.out.1.m, Try.info_mvB _ _ _ _ _, ?_⟩)
        | ((with_reducible refine mv_load_rowG rfl 33 _ rfl Try.underlying33 rfl ?_); refine ⟨_, _, _, rfl, HV1.out.2, Try.info_mvB _ _ _ _ _, ?_⟩)
        | ((with_reducible refine wpl_eql_mv rfl _ _ _ rfl ?_); refine ⟨(60, tg1, 0, 0, true), ((f : Int), (g : Int), 0, 0, true), rfl, rfl, ?_⟩; rw [HQ1.out]))
      rw [rounds_succ]
      go_wp2
      go_ret
      exact ⟨by rw [E.out]; rfl, HV1.out.1.below⟩
    cases e1
    · have E := Lib.hid (show S = ⟨#[]⟩ by rw [HE.out]; rfl)
      clear HE
      go_wp2_with (first
        | ((with_reducible refine wp_load_box_g rfl _ rfl ?_); refine ⟨_, c, rfl, HV0.out.1.p, ?_⟩)
        | (go_at_call 19; (with_reducible refine (HC1.out _).mono ?_); rintro e wc1 ⟨rfl, hbc⟩; have HK1 := Lib.hid (HV0.out.1.next hbc); clear hbc)
        | ((with_reducible refine wp_store_row' rfl 33 _ _ rfl ?_); refine ⟨wc1.heap.size, 33, movC 60 tg1 0 0 true, rfl, rfl, ⟨_, heap_alloc_new _ _, (by kernel_rfl)⟩, Try.info_mvB _ _ _ _ _, Try.one_mvB _ _ _ _ _, ?_⟩; intro V1 hP hq; have HV1 := Lib.hid (And.intro ((HK1.out.next ((Below.refl _ _).alloc (Nat.le_refl _) _)).other hP HK1.out.m.lt) hq); clear hP hq)
        | ((with_reducible refine mv_load_rowG rfl 33 _ rfl Try.underlying33 rfl ?_); refine ⟨w.heap.size + 1, _, _, rfl, HV1.out.1.m, Try.info_mvB _ _ _ _ _, ?_⟩)
        | ((with_reducible refine mv_load_rowG rfl 33 _ rfl Try.underlying33 rfl ?_); refine ⟨_, _, _, rfl, HV1.out.2, Try.info_mvB _ _ _ _ _, ?_⟩)
        | ((with_reducible refine wpl_eql_mv rfl _ _ _ rfl ?_); refine ⟨(60, tg1, 0, 0, true), ((f : Int), (g : Int), 0, 0, true), rfl, rfl, ?_⟩; rw [HQ1.out]))
      rw [rounds_succ]
      go_wp2
      go_ret
      exact ⟨by rw [E.out]; rfl, HV1.out.1.below⟩
    · have E := Lib.hid (show S = x ++ y1 by rw [HE.out]; rfl)
      clear HE
      go_upto_region 10 with (first
        | ((with_reducible refine wp_load_box_g rfl _ rfl ?_); refine ⟨_, c, rfl, HV0.out.1.p, ?_⟩)
        | (go_at_call 19; (with_reducible refine (HC1.out _).mono ?_); rintro e wc1 ⟨rfl, hbc⟩; have HK1 := Lib.hid (HV0.out.1.next hbc); clear hbc)
        | ((with_reducible refine wp_store_row' rfl 33 _ _ rfl ?_); refine ⟨wc1.heap.size, 33, movC 60 tg1 0 0 true, rfl, rfl, ⟨_, heap_alloc_new _ _, (by kernel_rfl)⟩, Try.info_mvB _ _ _ _ _, Try.one_mvB _ _ _ _ _, ?_⟩; intro V1 hP hq; have HV1 := Lib.hid (And.intro ((HK1.out.next ((Below.refl _ _).alloc (Nat.le_refl _) _)).other hP HK1.out.m.lt) hq); clear hP hq)
        | ((with_reducible refine mv_load_rowG rfl 33 _ rfl Try.underlying33 rfl ?_); refine ⟨w.heap.size + 1, _, _, rfl, HV1.out.1.m, Try.info_mvB _ _ _ _ _, ?_⟩)
        | ((with_reducible refine mv_load_rowG rfl 33 _ rfl Try.underlying33 rfl ?_); refine ⟨_, _, _, rfl, HV1.out.2, Try.info_mvB _ _ _ _ _, ?_⟩)
        | ((with_reducible refine wpl_eql_mv rfl _ _ _ rfl ?_); refine ⟨(60, tg1, 0, 0, true), ((f : Int), (g : Int), 0, 0, true), rfl, rfl, ?_⟩; rw [HQ1.out]))
      have q0 := HV1.out.1.m.cell 0
      rw [show (movC f g 0 0 true)[0]? = some (.int .i8 (f : Int)) from rfl] at q0
      have lb2 := HV1.out.1.m.lt
      refine region_below (by kernel_rfl) (by kernel_rfl) ?_
      try simp only [Act.put]
      repeat (first
        | (go_big_quiet_want; refine quiet_load_mvp _ rfl ⟨_, c, rfl, HV1.out.1.p, ?_⟩; simp only [Act.put, List.setIfInBounds_toArray, List.set_cons_succ, List.set_cons_zero]; go_big_quiet_on)
        | (go_big_quiet_want; refine quiet_cat _ _ _ rfl ⟨x, y1, rfl, rfl, HSy.out, ?_⟩; simp only [Act.put, List.setIfInBounds_toArray, List.set_cons_succ, List.set_cons_zero]; go_big_quiet_on)
        | go_big_quiet_step (first
          | (go_at_call 32; (with_reducible exact quiet_below (HF.out _)))
          | (go_at_call 33; (with_reducible exact quiet_below (HHo.out _)))
          | (go_at_call 32; (with_reducible exact quiet_below (HY.out _)))))
      refine wpQuiet_nil ?_
      intro w9 hb9
      have H9 := Lib.hid (HV1.out.1.next hb9)
      clear hb9
      go_wp2
      go_ret
      exact ⟨by rw [E.out]; rfl, H9.out.below⟩
  · have E := Lib.hid (show S = x ++ y0 by rw [HE.out]; rfl)
    clear HE
    go_upto_region 10 with (first
      | ((with_reducible refine wp_load_box_g rfl _ rfl ?_); refine ⟨_, c, rfl, HG.out.p, ?_⟩)
      | (go_at_call 19; (with_reducible refine (HC0.out _).mono ?_); rintro e wc0 ⟨rfl, hbc⟩; have HK0 := Lib.hid (HG.out.next hbc); clear hbc)
      | ((with_reducible refine wp_store_row' rfl 33 _ _ rfl ?_); refine ⟨wc0.heap.size, 33, movC 60 tg0 0 0 true, rfl, rfl, ⟨_, heap_alloc_new _ _, (by kernel_rfl)⟩, Try.info_mvB _ _ _ _ _, Try.one_mvB _ _ _ _ _, ?_⟩; intro V0 hP hq; have HV0 := Lib.hid (And.intro ((HK0.out.next ((Below.refl _ _).alloc (Nat.le_refl _) _)).other hP HK0.out.m.lt) hq); clear hP hq)
      | ((with_reducible refine mv_load_rowG rfl 33 _ rfl Try.underlying33 rfl ?_); refine ⟨w.heap.size + 1, _, _, rfl, HV0.out.1.m, Try.info_mvB _ _ _ _ _, ?_⟩)
      | ((with_reducible refine mv_load_rowG rfl 33 _ rfl Try.underlying33 rfl ?_); refine ⟨_, _, _, rfl, HV0.out.2, Try.info_mvB _ _ _ _ _, ?_⟩)
      | ((with_reducible refine wpl_eql_mv rfl _ _ _ rfl ?_); refine ⟨(60, tg0, 0, 0, true), ((f : Int), (g : Int), 0, 0, true), rfl, rfl, ?_⟩; rw [HQ0.out]))
    have q0 := HV0.out.1.m.cell 0
    rw [show (movC f g 0 0 true)[0]? = some (.int .i8 (f : Int)) from rfl] at q0
    have lb2 := HV0.out.1.m.lt
    refine region_below (by kernel_rfl) (by kernel_rfl) ?_
    try simp only [Act.put]
    repeat (first
      | (go_big_quiet_want; refine quiet_load_mvp _ rfl ⟨_, c, rfl, HV0.out.1.p, ?_⟩; simp only [Act.put, List.setIfInBounds_toArray, List.set_cons_succ, List.set_cons_zero]; go_big_quiet_on)
      | (go_big_quiet_want; refine quiet_cat _ _ _ rfl ⟨x, y0, rfl, rfl, HSx.out, ?_⟩; simp only [Act.put, List.setIfInBounds_toArray, List.set_cons_succ, List.set_cons_zero]; go_big_quiet_on)
      | go_big_quiet_step (first
        | (go_at_call 32; (with_reducible exact quiet_below (HF.out _)))
        | (go_at_call 33; (with_reducible exact quiet_below (HHo.out _)))
        | (go_at_call 32; (with_reducible exact quiet_below (HX.out _)))))
    refine wpQuiet_nil ?_
    intro w9 hb9
    have H9 := Lib.hid (HV0.out.1.next hb9)
    clear hb9
    go_wp2
    go_ret
    exact ⟨by rw [E.out]; rfl, H9.out.below⟩
end Go.Proofs.Ytldpejeodhkgdaa
