/- The program's package moves: castles. -/
import Derived.Test.YtldpejeodhkgdaaMvB
import Derived.Test.YtldpejeodhkgdaaMoves13
namespace Go.Proofs.Ytldpejeodhkgdaa
open Go.RowKit Go.Sort
attribute [local go_sem] Oper.semAt_some

theorem exec_eql_mv (ev : Operand → Value) (o : Oper) (x y : Operand) (t : TypeId) (m n : Mv) (w : World) (ho : o.op = .binOp .eql 33 x y t)
    (hx : ev x = .agg #[.int .i8 m.1, .int .i8 m.2.1, .int .u8 m.2.2.1, .int .u8 m.2.2.2.1, .bool m.2.2.2.2]) (hy : ev y = .agg #[.int .i8 n.1, .int .i8 n.2.1, .int .u8 n.2.2.1, .int .u8 n.2.2.2.1, .bool n.2.2.2.2]) :
    (execOp ev o).run Try.prog w = .ok (.value (.bool (m == n))) w := by
  obtain ⟨f, g, p, d, c⟩ := m
  obtain ⟨f', g', p', d', c'⟩ := n
  unfold execOp
  simp only [ho, hx, hy]
  by_cases h1 : f = f'
  · subst h1
    by_cases h2 : g = g'
    · subst h2
      by_cases h3 : p = p'
      · subst h3
        by_cases h4 : d = d'
        · subst h4
          by_cases h5 : c = c'
          · subst h5
            simp [go_sem]
          · simp [go_sem, h5]
        · simp [go_sem, h4]
      · simp [go_sem, h3]
    · simp [go_sem, h2]
  · simp [go_sem, h1]
/-- Two moves compared, guarded or not. -/
theorem wpl_eql_mv {ops : Array Oper} {rest : List Oper} {o : Oper} {a : Act} {w : World} {Q : Exit → Act → World → Prop} (hw : Region.wanted o (yielded ops a.tmps) = true) (x y : Operand) (t : TypeId) (ho : o.op = .binOp .eql 33 x y t)
    (h : ∃ m n : Mv, a.eval x = .agg #[.int .i8 m.1, .int .i8 m.2.1, .int .u8 m.2.2.1, .int .u8 m.2.2.2.1, .bool m.2.2.2.2] ∧ a.eval y = .agg #[.int .i8 n.1, .int .i8 n.2.1, .int .u8 n.2.2.1, .int .u8 n.2.2.2.1, .bool n.2.2.2.2] ∧ wpList Try.prog ops Q rest (a.put o.dst (.bool (m == n))) w) : wpList Try.prog ops Q (o :: rest) a w := by
  obtain ⟨m, n, hx, hy, h⟩ := h
  refine wpList_step fun K hK => ?_
  rw [if_pos hw]
  unfold Oper.wp
  simp only [exec_eql_mv a.eval o x y t m n w ho hx hy]
  exact hK _ _ h
theorem exec_cat (ev : Operand → Value) (o : Oper) (x y : Operand) (t : TypeId) (s u : ByteArray) (w : World) (ho : o.op = .binOp .add 9 x y t) (hx : ev x = .string s) (hy : ev y = .string u) (hl : s.size + u.size ≤ 9223372036854775807) :
    (execOp ev o).run Try.prog w = .ok (.value (.string (s ++ u))) w := by
  unfold execOp
  simp only [ho, hx, hy]
  simp [go_sem]
  exact hl
/-- Two strings joined, in a region that draws. -/
theorem quiet_cat {S : World → Prop} {K : Act → Prop} {a : Act} {o : Oper} (x y : Operand) (t : TypeId) (ho : o.op = .binOp .add 9 x y t)
    (h : ∃ s u : ByteArray, a.eval x = .string s ∧ a.eval y = .string u ∧ s.size + u.size ≤ 9223372036854775807 ∧ K (a.put o.dst (.string (s ++ u)))) : o.quiet Try.prog a S K := by
  obtain ⟨s, u, hx, hy, hl, hk⟩ := h
  refine ⟨_, fun w' _ => ?_, hk⟩
  unfold Oper.quietAt
  simp only [exec_cat a.eval o x y t s u w' ho hx hy hl]
  exact ⟨rfl, rfl⟩
theorem mvgoals_any (w : World) : Calls Try.prog 18 #[] w fun e w' => e = .returned (.agg #[.int .i8 6, .int .i8 2]) ∧ Below w.heap.size w w' := by
  have hb0 : Below w.heap.size w (w.alloc (.cells #[.int .i8 0, .int .i8 0] 27)) := (Below.refl _ _).alloc (Nat.le_refl _) _
  go_enter Try.func18, Try.ntmps18
  go_wp2_with ((with_reducible refine wp_store_row' rfl 27 _ _ rfl ?_); refine ⟨w.heap.size, 27, #[.int .i8 6, .int .i8 2], rfl, rfl, ⟨_, heap_alloc_new _ _, (by kernel_rfl)⟩, (by kernel_rfl), (by kernel_rfl), ?_⟩; intro W3 hP hq)
  exact bodyPost_ret (v := .agg #[.int .i8 6, .int .i8 2]) (results_cell_row Try.results18 _ _ w.heap.size 27 _ (0, 0) _ rfl hq.heap Try.underlying27 rfl (by kernel_rfl)) rfl ⟨rfl, hP.below hb0 (Nat.le_refl _)⟩

/-- A position in a call's first box, a move in the next. -/
structure PMv (w : World) (g : Nat) (c : Nat → Int) (m : Array Value) (W : World) : Prop where
  p : PosAt W g c
  m : RowAt W (g + 1) 33 m
  below : Below g w W
theorem PMv.next {w W W' : World} {g : Nat} {c : Nat → Int} {m : Array Value} (h : PMv w g c m W) (hb : Below W.heap.size W W') : PMv w g c m W' :=
  ⟨h.p.below hb, h.m.below hb, h.below.trans (hb.mono (Nat.le_of_lt h.p.lt))⟩
theorem PMv.start (w : World) (c : Nat → Int) (m : Array Value) : PMv w w.heap.size c m ((w.alloc (.cells (posC c) 31)).alloc (.cells m 33)) :=
  ⟨(PosAt.new w c).alloc _, by have := RowAt.new (w.alloc (.cells (posC c) 31)) m 33; rwa [World.size_alloc] at this, ((Below.refl _ _).alloc (Nat.le_refl _) _).alloc (by simp) _⟩
/-- A castling's text in Chess960. -/
def N.cas9 (c : Nat → Int) (f g : Nat) : ByteArray := if (M.stands c f 6 && M.stands c g 4) = true then N.two f g else ⟨#[]⟩
set_option maxRecDepth 100000 in
set_option maxHeartbeats 2000000 in
theorem mvcastles_9 (c : Nat → Int) (f g : Nat) (w : World) (h78 : 0 ≤ c 78 ∧ c 78 ≤ 1) (h0 : c 0 = 1) (hf : f < 64) (hg : g < 64) :
    Calls Try.prog 17 #[.agg (posC c), .agg (movC f g 0 0 true)] w fun e w' => e = .returned (.string (N.cas9 c f g)) ∧ Below w.heap.size w w' := by
  have hP := PMv.start w c (movC f g 0 0 true)
  have c0 := hP.p.cell (i := 0) (by decide)
  rw [show pk 0 = .u8 from rfl, h0] at c0
  have m0 := hP.m.cell 0
  have m1 := hP.m.cell 1
  rw [show (movC f g 0 0 true)[0]? = some (.int .i8 (f : Int)) from rfl] at m0
  rw [show (movC f g 0 0 true)[1]? = some (.int .i8 (g : Int)) from rfl] at m1
  have HA : Hid (∀ W, Calls Try.prog 31 #[.agg (posC c), .int .i8 (f : Int), .int .u8 6] W fun e w' => e = .returned (.bool (M.stands c f 6)) ∧ Below W.heap.size W w') := Lib.hid (fun W => stands_walk c f 6 W hf h78.1 (by omega) (by decide) (by decide))
  have HB : Hid (∀ W, Calls Try.prog 31 #[.agg (posC c), .int .i8 (g : Int), .int .u8 4] W fun e w' => e = .returned (.bool (M.stands c g 4)) ∧ Below W.heap.size W w') := Lib.hid (fun W => stands_walk c g 4 W hg h78.1 (by omega) (by decide) (by decide))
  have HF : Hid (∀ W, Calls Try.prog 32 #[.int .i8 (f : Int)] W fun e w' => e = .returned (.string (N.tx f)) ∧ Below W.heap.size W w') := Lib.hid (fun W => mvtext_any f W hf)
  have HG : Hid (∀ W, Calls Try.prog 32 #[.int .i8 (g : Int)] W fun e w' => e = .returned (.string (N.tx g)) ∧ Below W.heap.size W w') := Lib.hid (fun W => mvtext_any g W hg)
  have HE := Lib.hid (show N.cas9 c f g = if (M.stands c f 6 && M.stands c g 4) = true then N.tx f ++ N.tx g else ⟨#[]⟩ from rfl)
  have HSz := Lib.hid (show (N.tx f).size + (N.tx g).size ≤ 9223372036854775807 from (by decide : 2 + 2 ≤ 9223372036854775807))
  have lb := hP.m.lt
  have H0 := Lib.hid hP
  clear hP h0 h78 hf hg
  obtain ⟨a, ha⟩ : ∃ a, M.stands c f 6 = a := ⟨_, rfl⟩
  obtain ⟨b, hb⟩ : ∃ b, M.stands c g 4 = b := ⟨_, rfl⟩
  obtain ⟨x, hx⟩ : ∃ x, N.tx f = x := ⟨_, rfl⟩
  obtain ⟨y, hy⟩ : ∃ y, N.tx g = y := ⟨_, rfl⟩
  rw [ha, hb, hx, hy] at HE
  rw [hx, hy] at HSz
  rw [ha] at HA
  rw [hb] at HB
  rw [hx] at HF
  rw [hy] at HG
  obtain ⟨S, hS⟩ : ∃ S, N.cas9 c f g = S := ⟨_, rfl⟩
  rw [hS] at HE ⊢
  clear ha hb hx hy hS
  cases a
  · have E := Lib.hid (show S = ⟨#[]⟩ by rw [HE.out]; rfl)
    clear HE HB HF HG
    go_enter Try.func17, Try.ntmps17
    go_wp2_with (first
      | ((with_reducible refine wp_load_box_g rfl _ rfl ?_); refine ⟨_, c, rfl, H0.out.p, ?_⟩)
      | (go_at_call 31; (with_reducible refine (HA.out _).mono ?_); rintro e w1 ⟨rfl, hb1⟩; have H1 := Lib.hid (H0.out.next hb1); clear hb1))
    go_ret
    exact ⟨by rw [E.out]; rfl, H1.out.below⟩
  cases b
  · have E := Lib.hid (show S = ⟨#[]⟩ by rw [HE.out]; rfl)
    clear HE HF HG
    go_enter Try.func17, Try.ntmps17
    go_wp2_with (first
      | ((with_reducible refine wp_load_box_g rfl _ rfl ?_); refine ⟨_, c, rfl, H1.out.p, ?_⟩)
      | ((with_reducible refine wp_load_box_g rfl _ rfl ?_); refine ⟨_, c, rfl, H0.out.p, ?_⟩)
      | (go_at_call 31; (with_reducible refine (HA.out _).mono ?_); rintro e w1 ⟨rfl, hb1⟩; have H1 := Lib.hid (H0.out.next hb1); have m1' := H1.out.m.cell 1; rw [show (movC f g 0 0 true)[1]? = some (.int .i8 (g : Int)) from rfl] at m1'; clear hb1)
      | (go_at_call 31; (with_reducible refine (HB.out _).mono ?_); rintro e w2 ⟨rfl, hb2⟩; have H2 := Lib.hid (H1.out.next hb2); clear hb2))
    go_ret
    exact ⟨by rw [E.out]; rfl, H2.out.below⟩
  · have E := Lib.hid (show S = x ++ y by rw [HE.out]; rfl)
    clear HE
    go_enter Try.func17, Try.ntmps17
    go_upto_region 4 with (first
      | ((with_reducible refine wp_load_box_g rfl _ rfl ?_); refine ⟨_, c, rfl, H1.out.p, ?_⟩)
      | ((with_reducible refine wp_load_box_g rfl _ rfl ?_); refine ⟨_, c, rfl, H0.out.p, ?_⟩)
      | (go_at_call 31; (with_reducible refine (HA.out _).mono ?_); rintro e w1 ⟨rfl, hb1⟩; have H1 := Lib.hid (H0.out.next hb1); have m1' := H1.out.m.cell 1; rw [show (movC f g 0 0 true)[1]? = some (.int .i8 (g : Int)) from rfl] at m1'; clear hb1)
      | (go_at_call 31; (with_reducible refine (HB.out _).mono ?_); rintro e w2 ⟨rfl, hb2⟩; have H2 := Lib.hid (H1.out.next hb2); clear hb2))
    have q0 := H2.out.m.cell 0
    have q1 := H2.out.m.cell 1
    rw [show (movC f g 0 0 true)[0]? = some (.int .i8 (f : Int)) from rfl] at q0
    rw [show (movC f g 0 0 true)[1]? = some (.int .i8 (g : Int)) from rfl] at q1
    have lb2 := H2.out.m.lt
    clear m0 m1 m1' lb c0 H0 H1
    refine region_below (by kernel_rfl) (by kernel_rfl) ?_
    try simp only [Act.put]
    repeat (first
      | (go_big_quiet_want; refine quiet_cat _ _ _ rfl ⟨x, y, rfl, rfl, HSz.out, ?_⟩; simp only [Act.put, List.setIfInBounds_toArray, List.set_cons_succ, List.set_cons_zero]; go_big_quiet_on)
      | go_big_quiet_step (first
        | (go_at_call 32; (with_reducible exact quiet_below (HF.out _)))
        | (go_at_call 32; (with_reducible exact quiet_below (HG.out _)))))
    refine wpQuiet_nil ?_
    intro w3 hb3
    have H3 := Lib.hid (H2.out.next hb3)
    clear hb3
    go_wp2
    go_ret
    exact ⟨by rw [E.out]; rfl, H3.out.below⟩
end Go.Proofs.Ytldpejeodhkgdaa
