/- The laws MovesArg, MovesOne, MovesBack. -/
import Derived.Test.YtldpejeodhkgdaaDoorAwkB
import Derived.Test.YtldpejeodhkgdaaDoorLaw11a
namespace Go.Proofs.YtldpejeodhkgdaaDoor
open Go.RowKit Go.Sort
attribute [local go_sem] Oper.semAt_some

theorem u8_wf (x : Int) (h0 : 0 ≤ x) (h1 : x ≤ 255) : (Lit.int .u8 x).wf = true := all8 (fun x => (Lit.int .u8 x).wf = true) (by decide +kernel) x h0 h1
theorem posOk_upd {c : Nat → Int} {i : Nat} {n : Int} (hc : PosOk c) (hn : (Lit.int (pk i) n).wf = true) : PosOk (upd c i n) := fun j hj => by
  by_cases h : j = i
  · subst h; rw [upd_same]; exact hn
  · rw [upd_other _ _ _ _ h]; exact hc j hj
theorem quiet_eql_mvR {S : World → Prop} {K : Act → Prop} {a : Act} {o : Oper} (x y : Operand) (t : TypeId) (ho : o.op = .binOp .eql 33 x y t)
    (h : ∃ m n : Mv, a.eval x = .agg #[.int .i8 m.1, .int .i8 m.2.1, .int .u8 m.2.2.1, .int .u8 m.2.2.2.1, .bool m.2.2.2.2] ∧ a.eval y = .agg #[.int .i8 n.1, .int .i8 n.2.1, .int .u8 n.2.2.1, .int .u8 n.2.2.2.1, .bool n.2.2.2.2] ∧ K (a.put o.dst (.bool (m == n)))) : o.quiet Tryd.prog a S K := by
  obtain ⟨m, n, hx, hy, hk⟩ := h
  refine ⟨_, fun w' _ => ?_, hk⟩
  unfold Oper.quietAt
  simp only [exec_eql_mv a.eval o x y t m n w' ho hx hy]
  exact ⟨rfl, rfl⟩
theorem exec_neq_mvR (ev : Operand → Value) (o : Oper) (x y : Operand) (t : TypeId) (m n : Mv) (w : World) (ho : o.op = .binOp .neq 33 x y t)
    (hx : ev x = .agg #[.int .i8 m.1, .int .i8 m.2.1, .int .u8 m.2.2.1, .int .u8 m.2.2.2.1, .bool m.2.2.2.2]) (hy : ev y = .agg #[.int .i8 n.1, .int .i8 n.2.1, .int .u8 n.2.2.1, .int .u8 n.2.2.2.1, .bool n.2.2.2.2]) :
    (execOp ev o).run Tryd.prog w = .ok (.value (.bool (m != n))) w := by
  obtain ⟨f, g, p, d, c⟩ := m
  obtain ⟨f', g', p', d', c'⟩ := n
  unfold execOp
  simp only [ho, hx, hy]
  by_cases h1 : f = f'
  · subst h1
    by_cases h2 : g = g'
    · subst h2
      by_cases h3 : p = p'
      · subst h3
        by_cases h4 : d = d'
        · subst h4
          by_cases h5 : c = c'
          · subst h5
            simp [go_sem]
          · have : ((f, g, p, d, c) != (f, g, p, d, c')) = true := by simp [h5]
            simp [go_sem, h5, this]
        · have : ((f, g, p, d, c) != (f, g, p, d', c')) = true := by simp [h4]
          simp [go_sem, h4, this]
      · have : ((f, g, p, d, c) != (f, g, p', d', c')) = true := by simp [h3]
        simp [go_sem, h3, this]
    · have : ((f, g, p, d, c) != (f, g', p', d', c')) = true := by simp [h2]
      simp [go_sem, h2, this]
  · have : ((f, g, p, d, c) != (f', g', p', d', c')) = true := by simp [h1]
    simp [go_sem, h1, this]
theorem wpl_neq_mvR {ops : Array Oper} {rest : List Oper} {o : Oper} {a : Act} {w : World} {Q : Exit → Act → World → Prop} (hw : Region.wanted o (yielded ops a.tmps) = true) (x y : Operand) (t : TypeId) (ho : o.op = .binOp .neq 33 x y t)
    (h : ∃ m n : Mv, a.eval x = .agg #[.int .i8 m.1, .int .i8 m.2.1, .int .u8 m.2.2.1, .int .u8 m.2.2.2.1, .bool m.2.2.2.2] ∧ a.eval y = .agg #[.int .i8 n.1, .int .i8 n.2.1, .int .u8 n.2.2.1, .int .u8 n.2.2.2.1, .bool n.2.2.2.2] ∧ wpList Tryd.prog ops Q rest (a.put o.dst (.bool (m != n))) w) : wpList Tryd.prog ops Q (o :: rest) a w := by
  obtain ⟨m, n, hx, hy, h⟩ := h
  refine wpList_step fun K hK => ?_
  rw [if_pos hw]
  unfold Oper.wp
  simp only [exec_neq_mvR a.eval o x y t m n w ho hx hy]
  exact hK _ _ h

set_option maxRecDepth 100000 in
set_option maxHeartbeats 4000000 in
theorem movesArg_walk (c : Nat → Int) (f g x y : Int) (z : Bool) (s : ByteArray) (v t : Int) (w : World) (hc : PosOk c) (hm : MovOk f g x y) (hs : s.size ≤ 9223372036854775807) (hv : 0 ≤ v ∧ v ≤ 255) (ht : 0 ≤ t ∧ t ≤ 255) :
    Calls Tryd.prog 8 #[.agg (posC c), .agg (movC f g x y z), .string s, .int .u8 v, .int .u8 t] w fun e w' => e = .returned (.bool true) ∧ Below w.heap.size w w' := by
  have H0 := Lib.hid (PMv.start w c (movC f g x y z))
  by_cases h5 : 5000 < s.size
  · have d5 : decide ((5000 : Int) < (s.size : Int)) = true := by simp; omega
    clear h5 hc hm hv ht
    go_enter Tryd.func8, Tryd.ntmps8
    go_wp2_with (go_at_call 11; (with_reducible refine (awake11_any _).mono ?_); rintro r w1 ⟨rfl, hb⟩; have H1 := Lib.hid (H0.out.next hb); clear hb)
    go_ret
    exact ⟨rfl, H1.out.below⟩
  have d5 : decide ((5000 : Int) < (s.size : Int)) = false := by simp; omega
  have hc2 : PosOk (upd (upd c 0 v) 78 t) := posOk_upd (posOk_upd hc (by rw [show pk 0 = .u8 from rfl]; exact u8_wf _ hv.1 hv.2)) (by rw [show pk 78 = .u8 from rfl]; exact u8_wf _ ht.1 ht.2)
  have e0 : upd (upd c 0 v) 78 t 0 = v := by rw [upd_other _ _ _ _ (by decide), upd_same]
  have e78 : upd (upd c 0 v) 78 t 78 = t := upd_same _ _ _
  obtain ⟨C, hC⟩ : ∃ C, upd (upd c 0 v) 78 t = C := ⟨_, rfl⟩
  rw [hC] at hc2 e0 e78
  have HCE := Lib.hid hC
  obtain ⟨f', g', x', y', z', e, hE, hEC⟩ := mvParse_fix C s hc2 hs
  obtain ⟨S, hT, hTC⟩ := mvText_fix C f g x y z hc2 hm
  have HP := Lib.hid hEC
  have HT := Lib.hid hTC
  clear hEC hTC hC h5 hc
  by_cases hk : v < 9 ∧ t ≤ 1
  · have hkn : N.known C := ⟨by rw [e0]; omega, by rw [e78]; omega⟩
    have d9 : decide (9 ≤ v) = false := by simp; omega
    have d1 : decide (1 < t) = false := by simp; omega
    rcases hE with ⟨rfl, _⟩ | ⟨hz, ⟨_, h⟩ | ⟨rfl, _⟩⟩
    · clear e0 e78 hk hkn hT hc2 hm hv ht
      go_enter Tryd.func8, Tryd.ntmps8
      go_wp2_with (first
        | (go_at_call 11; (with_reducible refine (awake11_any _).mono ?_); rintro r w1 ⟨rfl, hb⟩; have H1 := Lib.hid (H0.out.next hb); clear hb)
        | ((with_reducible refine wp_store_cell rfl _ _ _ rfl ?_); refine ⟨w.heap.size, 0, c, v, .u8, rfl, rfl, H1.out.p, (by decide), rfl, Tryd.size_u8, ?_⟩; intro Wa hP hq; have HA := Lib.hid (show PMv w w.heap.size (upd c 0 v) (movC f g x y z) Wa from ⟨hq, hP.row H1.out.m (Nat.succ_ne_self _), hP.below H1.out.below (Nat.le_refl _)⟩); clear hP hq)
        | ((with_reducible refine wp_store_cell rfl _ _ _ rfl ?_); refine ⟨w.heap.size, 78, upd c 0 v, t, .u8, rfl, rfl, HA.out.p, (by decide), rfl, Tryd.size_u8, ?_⟩; intro Wb hP hq; have HC := Lib.hid (show PMv w w.heap.size C (movC f g x y z) Wb from ⟨HCE.out ▸ hq, hP.row HA.out.m (Nat.succ_ne_self _), hP.below HA.out.below (Nat.le_refl _)⟩); clear hP hq)
        | ((with_reducible refine wp_load_box_g rfl _ rfl ?_); refine ⟨_, C, rfl, H3.out.1.p, ?_⟩)
        | ((with_reducible refine wp_load_box_g rfl _ rfl ?_); refine ⟨_, C, rfl, HC.out.p, ?_⟩)
        | (go_at_call 12; (with_reducible refine (HP.out _).mono ?_); rintro r w2 ⟨rfl, hb⟩; have H2 := Lib.hid (HC.out.next hb); clear hb)
        | ((with_reducible refine wp_store_row' rfl 33 _ _ rfl ?_); refine ⟨w2.heap.size, 33, movC f' g' x' y' z', rfl, rfl, ⟨_, heap_alloc_new _ _, (by kernel_rfl)⟩, Tryd.info_mvB _ _ _ _ _, Tryd.one_mvB _ _ _ _ _, ?_⟩; intro W3 hP hq; have H3 := Lib.hid (And.intro ((H2.out.next ((Below.refl _ _).alloc (Nat.le_refl _) _)).other hP H2.out.m.lt) hq); clear hP hq))
      go_ret
      exact ⟨rfl, H3.out.1.below⟩
    · exact absurd hkn h
    · clear hz e0 e78 hk hkn hT hc2 hm hv ht
      go_enter Tryd.func8, Tryd.ntmps8
      go_wp2_with (first
        | (go_at_call 11; (with_reducible refine (awake11_any _).mono ?_); rintro r w1 ⟨rfl, hb⟩; have H1 := Lib.hid (H0.out.next hb); clear hb)
        | ((with_reducible refine wp_store_cell rfl _ _ _ rfl ?_); refine ⟨w.heap.size, 0, c, v, .u8, rfl, rfl, H1.out.p, (by decide), rfl, Tryd.size_u8, ?_⟩; intro Wa hP hq; have HA := Lib.hid (show PMv w w.heap.size (upd c 0 v) (movC f g x y z) Wa from ⟨hq, hP.row H1.out.m (Nat.succ_ne_self _), hP.below H1.out.below (Nat.le_refl _)⟩); clear hP hq)
        | ((with_reducible refine wp_store_cell rfl _ _ _ rfl ?_); refine ⟨w.heap.size, 78, upd c 0 v, t, .u8, rfl, rfl, HA.out.p, (by decide), rfl, Tryd.size_u8, ?_⟩; intro Wb hP hq; have HC := Lib.hid (show PMv w w.heap.size C (movC f g x y z) Wb from ⟨HCE.out ▸ hq, hP.row HA.out.m (Nat.succ_ne_self _), hP.below HA.out.below (Nat.le_refl _)⟩); clear hP hq)
        | ((with_reducible refine wp_load_box_g rfl _ rfl ?_); refine ⟨_, C, rfl, H3.out.1.p, ?_⟩)
        | ((with_reducible refine wp_load_box_g rfl _ rfl ?_); refine ⟨_, C, rfl, HC.out.p, ?_⟩)
        | (go_at_call 12; (with_reducible refine (HP.out _).mono ?_); rintro r w2 ⟨rfl, hb⟩; have H2 := Lib.hid (HC.out.next hb); clear hb)
        | ((with_reducible refine wp_store_row' rfl 33 _ _ rfl ?_); refine ⟨w2.heap.size, 33, movC f' g' x' y' z', rfl, rfl, ⟨_, heap_alloc_new _ _, (by kernel_rfl)⟩, Tryd.info_mvB _ _ _ _ _, Tryd.one_mvB _ _ _ _ _, ?_⟩; intro W3 hP hq; have H3 := Lib.hid (And.intro ((H2.out.next ((Below.refl _ _).alloc (Nat.le_refl _) _)).other hP H2.out.m.lt) hq); clear hP hq))
      go_ret
      exact ⟨rfl, H3.out.1.below⟩
  · have hkn : ¬ N.known C := fun h => hk ⟨by have := h.1; rw [e0] at this; omega, by have := h.2; rw [e78] at this; omega⟩
    obtain ⟨rfl, rfl, rfl, rfl, rfl, rfl⟩ := N.parse_arg hkn hE
    obtain rfl : S = ⟨#[]⟩ := N.end_none hT (fun u hu => hkn hu.1)
    by_cases h9 : 9 ≤ v
    · have d9 : decide (9 ≤ v) = true := by simpa using h9
      clear e0 e78 hk hkn hT hE hc2 hm hv ht h9
      go_enter Tryd.func8, Tryd.ntmps8
      go_wp2_with (first
        | (go_at_call 11; (with_reducible refine (awake11_any _).mono ?_); rintro r w1 ⟨rfl, hb⟩; have H1 := Lib.hid (H0.out.next hb); clear hb)
        | ((with_reducible refine wp_store_cell rfl _ _ _ rfl ?_); refine ⟨w.heap.size, 0, c, v, .u8, rfl, rfl, H1.out.p, (by decide), rfl, Tryd.size_u8, ?_⟩; intro Wa hP hq; have HA := Lib.hid (show PMv w w.heap.size (upd c 0 v) (movC f g x y z) Wa from ⟨hq, hP.row H1.out.m (Nat.succ_ne_self _), hP.below H1.out.below (Nat.le_refl _)⟩); clear hP hq)
        | ((with_reducible refine wp_store_cell rfl _ _ _ rfl ?_); refine ⟨w.heap.size, 78, upd c 0 v, t, .u8, rfl, rfl, HA.out.p, (by decide), rfl, Tryd.size_u8, ?_⟩; intro Wb hP hq; have HC := Lib.hid (show PMv w w.heap.size C (movC f g x y z) Wb from ⟨HCE.out ▸ hq, hP.row HA.out.m (Nat.succ_ne_self _), hP.below HA.out.below (Nat.le_refl _)⟩); clear hP hq)
        | ((with_reducible refine wp_load_box_g rfl _ rfl ?_); refine ⟨_, C, rfl, H3.out.1.p, ?_⟩)
        | ((with_reducible refine wp_load_box_g rfl _ rfl ?_); refine ⟨_, C, rfl, HC.out.p, ?_⟩)
        | (go_at_call 12; (with_reducible refine (HP.out _).mono ?_); rintro r w2 ⟨rfl, hb⟩; have H2 := Lib.hid (HC.out.next hb); clear hb)
        | ((with_reducible refine wp_store_row' rfl 33 _ _ rfl ?_); refine ⟨w2.heap.size, 33, movC 0 0 0 0 false, rfl, rfl, ⟨_, heap_alloc_new _ _, (by kernel_rfl)⟩, Tryd.info_mvB _ _ _ _ _, Tryd.one_mvB _ _ _ _ _, ?_⟩; intro W3 hP hq; have H3 := Lib.hid (And.intro ((H2.out.next ((Below.refl _ _).alloc (Nat.le_refl _) _)).other hP H2.out.m.lt) hq); clear hP hq)
        | ((with_reducible refine mv_load_rowG rfl 33 _ rfl Tryd.underlying33 rfl ?_); refine ⟨_, _, _, rfl, H3.out.2, Tryd.info_mvB _ _ _ _ _, ?_⟩)
        | ((with_reducible refine mv_load_rowG rfl 33 _ rfl Tryd.underlying33 rfl ?_); refine ⟨_, _, _, rfl, H3.out.1.m, Tryd.info_mvB _ _ _ _ _, ?_⟩)
        | ((with_reducible refine wpl_eql_mv rfl _ _ _ rfl ?_); refine ⟨(0, 0, 0, 0, false), (0, 0, 0, 0, false), rfl, rfl, ?_⟩; rw [show (((0, 0, 0, 0, false) : Mv) == (0, 0, 0, 0, false)) = true from rfl])
        | (go_at_call 9; (with_reducible refine (HT.out _).mono ?_); rintro r w4 ⟨rfl, hb⟩; have H4 := Lib.hid (H3.out.1.next hb); clear hb))
      go_ret
      exact ⟨rfl, H4.out.below⟩
    · have d9 : decide (9 ≤ v) = false := by simpa using h9
      have d1 : decide (1 < t) = true := by simp; omega
      clear e0 e78 hk hkn hT hE hc2 hm hv ht h9
      go_enter Tryd.func8, Tryd.ntmps8
      go_wp2_with (first
        | (go_at_call 11; (with_reducible refine (awake11_any _).mono ?_); rintro r w1 ⟨rfl, hb⟩; have H1 := Lib.hid (H0.out.next hb); clear hb)
        | ((with_reducible refine wp_store_cell rfl _ _ _ rfl ?_); refine ⟨w.heap.size, 0, c, v, .u8, rfl, rfl, H1.out.p, (by decide), rfl, Tryd.size_u8, ?_⟩; intro Wa hP hq; have HA := Lib.hid (show PMv w w.heap.size (upd c 0 v) (movC f g x y z) Wa from ⟨hq, hP.row H1.out.m (Nat.succ_ne_self _), hP.below H1.out.below (Nat.le_refl _)⟩); clear hP hq)
        | ((with_reducible refine wp_store_cell rfl _ _ _ rfl ?_); refine ⟨w.heap.size, 78, upd c 0 v, t, .u8, rfl, rfl, HA.out.p, (by decide), rfl, Tryd.size_u8, ?_⟩; intro Wb hP hq; have HC := Lib.hid (show PMv w w.heap.size C (movC f g x y z) Wb from ⟨HCE.out ▸ hq, hP.row HA.out.m (Nat.succ_ne_self _), hP.below HA.out.below (Nat.le_refl _)⟩); clear hP hq)
        | ((with_reducible refine wp_load_box_g rfl _ rfl ?_); refine ⟨_, C, rfl, H3.out.1.p, ?_⟩)
        | ((with_reducible refine wp_load_box_g rfl _ rfl ?_); refine ⟨_, C, rfl, HC.out.p, ?_⟩)
        | (go_at_call 12; (with_reducible refine (HP.out _).mono ?_); rintro r w2 ⟨rfl, hb⟩; have H2 := Lib.hid (HC.out.next hb); clear hb)
        | ((with_reducible refine wp_store_row' rfl 33 _ _ rfl ?_); refine ⟨w2.heap.size, 33, movC 0 0 0 0 false, rfl, rfl, ⟨_, heap_alloc_new _ _, (by kernel_rfl)⟩, Tryd.info_mvB _ _ _ _ _, Tryd.one_mvB _ _ _ _ _, ?_⟩; intro W3 hP hq; have H3 := Lib.hid (And.intro ((H2.out.next ((Below.refl _ _).alloc (Nat.le_refl _) _)).other hP H2.out.m.lt) hq); clear hP hq)
        | ((with_reducible refine mv_load_rowG rfl 33 _ rfl Tryd.underlying33 rfl ?_); refine ⟨_, _, _, rfl, H3.out.2, Tryd.info_mvB _ _ _ _ _, ?_⟩)
        | ((with_reducible refine mv_load_rowG rfl 33 _ rfl Tryd.underlying33 rfl ?_); refine ⟨_, _, _, rfl, H3.out.1.m, Tryd.info_mvB _ _ _ _ _, ?_⟩)
        | ((with_reducible refine wpl_eql_mv rfl _ _ _ rfl ?_); refine ⟨(0, 0, 0, 0, false), (0, 0, 0, 0, false), rfl, rfl, ?_⟩; rw [show (((0, 0, 0, 0, false) : Mv) == (0, 0, 0, 0, false)) = true from rfl])
        | (go_at_call 9; (with_reducible refine (HT.out _).mono ?_); rintro r w4 ⟨rfl, hb⟩; have H4 := Lib.hid (H3.out.1.next hb); clear hb))
      go_ret
      exact ⟨rfl, H4.out.below⟩

/-- A position and two moves in a call's first boxes. -/
structure PMM (w : World) (c : Nat → Int) (m n : Array Value) (W : World) : Prop where
  p : PosAt W w.heap.size c
  m : RowAt W (w.heap.size + 1) 33 m
  n : RowAt W (w.heap.size + 2) 33 n
  below : Below w.heap.size w W
theorem PMM.next {w W W' : World} {c : Nat → Int} {m n : Array Value} (h : PMM w c m n W) (hb : Below W.heap.size W W') : PMM w c m n W' :=
  ⟨h.p.below hb, h.m.below hb, h.n.below hb, below_next h.below hb⟩
theorem PMM.start (w : World) (c : Nat → Int) (m n : Array Value) : PMM w c m n (((w.alloc (.cells (posC c) 31)).alloc (.cells m 33)).alloc (.cells n 33)) := by
  have h1 := RowAt.new (w.alloc (.cells (posC c) 31)) m 33
  have h2 := RowAt.new ((w.alloc (.cells (posC c) 31)).alloc (.cells m 33)) n 33
  rw [World.size_alloc] at h1
  rw [World.size_alloc, World.size_alloc] at h2
  exact ⟨((PosAt.new w c).alloc _).alloc _, h1.alloc _, h2, (((Below.refl _ _).alloc (Nat.le_refl _) _).alloc (by simp) _).alloc (by simp; omega) _⟩
namespace N
theorem text_of_ne {c : Nat → Int} {f g x y : Int} {z : Bool} {s : ByteArray} (h : TextEnd c f g x y z s) (hs : s ≠ ⟨#[]⟩) : Text c f g x y z s := by
  rcases h with h | ⟨h, _⟩
  · exact h
  · exact absurd h hs
theorem one_eq {c : Nat → Int} {f g x y f' g' x' y' : Int} {z z' : Bool} {s s' : ByteArray} (h : TextEnd c f g x y z s) (h' : TextEnd c f' g' x' y' z' s') (hs : s ≠ ⟨#[]⟩) :
    (s.toList == s'.toList) = (((f, g, x, y, z) : Mv) == (f', g', x', y', z')) := by
  rw [Bool.eq_iff_iff, toList_iff, beq_iff_eq]
  constructor
  · rintro rfl
    obtain ⟨rfl, rfl, rfl, rfl, rfl⟩ := text_one (text_of_ne h hs) (text_of_ne h' hs)
    rfl
  · intro e
    simp only [Prod.mk.injEq] at e
    obtain ⟨rfl, rfl, rfl, rfl, rfl⟩ := e
    exact textEnd_one h h'
end N
set_option maxRecDepth 100000 in
set_option maxHeartbeats 4000000 in
theorem movesOne_walk (c : Nat → Int) (f g x y : Int) (z : Bool) (f' g' x' y' : Int) (z' : Bool) (w : World) (hc : PosOk c) (hm : MovOk f g x y) (hm' : MovOk f' g' x' y') :
    Calls Tryd.prog 5 #[.agg (posC c), .agg (movC f g x y z), .agg (movC f' g' x' y' z')] w fun e w' => e = .returned (.bool true) ∧ Below w.heap.size w w' := by
  have H0 := Lib.hid (PMM.start w c (movC f g x y z) (movC f' g' x' y' z'))
  obtain ⟨S, hT, hTC⟩ := mvText_fix c f g x y z hc hm
  obtain ⟨S', hT', hTC'⟩ := mvText_fix c f' g' x' y' z' hc hm'
  have HT := Lib.hid hTC
  have HT' := Lib.hid hTC'
  have hne := fun hs => N.one_eq hT hT' hs
  clear hTC hTC' hT hT' hc hm hm'
  cases he : S.toList.isEmpty
  · have hE := hne (fun e => by rw [(N.empty_list S).2 e] at he; cases he)
    clear hne
    obtain ⟨B, hB⟩ : ∃ B, (S.toList == S'.toList) = B := ⟨_, rfl⟩
    rw [hB] at hE
    have HE := Lib.hid hE.symm
    clear hE
    go_enter Tryd.func5, Tryd.ntmps5
    go_upto_region 4 with (first
      | (go_at_call 11; (with_reducible refine (awake11_any _).mono ?_); rintro r w1 ⟨rfl, hb⟩; have H1 := Lib.hid (H0.out.next hb); clear hb)
      | ((with_reducible refine wp_load_box_g rfl _ rfl ?_); refine ⟨_, c, rfl, H1.out.p, ?_⟩)
      | ((with_reducible refine mv_load_rowG rfl 33 _ rfl Tryd.underlying33 rfl ?_); refine ⟨_, _, _, rfl, H1.out.m, Tryd.info_mvB _ _ _ _ _, ?_⟩)
      | (go_at_call 9; (with_reducible refine (HT.out _).mono ?_); rintro r w2 ⟨rfl, hb⟩; have H2 := Lib.hid (H1.out.next hb); clear hb))
    refine region_below (by kernel_rfl) (by kernel_rfl) ?_
    try simp only [Act.put]
    repeat (first
      | (go_big_quiet_want; refine quiet_load_mvp _ rfl ⟨_, c, rfl, H2.out.p, ?_⟩; simp only [Act.put, List.setIfInBounds_toArray, List.set_cons_succ, List.set_cons_zero]; go_big_quiet_on)
      | (go_big_quiet_want; refine quiet_load_mvR _ rfl ⟨_, _, f, g, x, y, z, rfl, H2.out.m, ?_⟩; simp only [Act.put, List.setIfInBounds_toArray, List.set_cons_succ, List.set_cons_zero]; go_big_quiet_on)
      | (go_big_quiet_want; refine quiet_load_mvR _ rfl ⟨_, _, f', g', x', y', z', rfl, H2.out.n, ?_⟩; simp only [Act.put, List.setIfInBounds_toArray, List.set_cons_succ, List.set_cons_zero]; go_big_quiet_on)
      | (go_big_quiet_want; refine quiet_eql_mvR _ _ _ rfl ⟨(f, g, x, y, z), (f', g', x', y', z'), rfl, rfl, ?_⟩; rw [HE.out]; simp only [Act.put, List.setIfInBounds_toArray, List.set_cons_succ, List.set_cons_zero]; go_big_quiet_on)
      | go_big_quiet_step (first
        | (go_at_call 9; (with_reducible exact quiet_below (HT'.out _)))))
    refine wpQuiet_nil ?_
    intro w3 hb3
    have H3 := Lib.hid (H2.out.next hb3)
    clear hb3
    go_wp2
    go_ret
    exact ⟨by first | rfl | simp, H3.out.below⟩
  · obtain rfl := (N.empty_list S).1 he
    clear hne he
    go_enter Tryd.func5, Tryd.ntmps5
    go_upto_region 4 with (first
      | (go_at_call 11; (with_reducible refine (awake11_any _).mono ?_); rintro r w1 ⟨rfl, hb⟩; have H1 := Lib.hid (H0.out.next hb); clear hb)
      | ((with_reducible refine wp_load_box_g rfl _ rfl ?_); refine ⟨_, c, rfl, H1.out.p, ?_⟩)
      | ((with_reducible refine mv_load_rowG rfl 33 _ rfl Tryd.underlying33 rfl ?_); refine ⟨_, _, _, rfl, H1.out.m, Tryd.info_mvB _ _ _ _ _, ?_⟩)
      | (go_at_call 9; (with_reducible refine (HT.out _).mono ?_); rintro r w2 ⟨rfl, hb⟩; have H2 := Lib.hid (H1.out.next hb); clear hb))
    refine region_below (by kernel_rfl) (by kernel_rfl) ?_
    try simp only [Act.put]
    repeat (go_big_quiet_step (fail))
    refine wpQuiet_nil ?_
    intro w3 hb3
    have H3 := Lib.hid (H2.out.next hb3)
    clear hb3
    go_wp2
    go_ret
    exact ⟨by first | rfl | simp, H3.out.below⟩
end Go.Proofs.YtldpejeodhkgdaaDoor
