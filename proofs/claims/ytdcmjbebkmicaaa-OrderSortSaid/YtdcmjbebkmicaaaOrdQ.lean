/- Two moves compared, in a region that draws: one step, no parting on their cells; a move out of a row put behind another row. -/
import Derived.Test.YtdcmjbebkmicaaaOrdW
import Derived.Laws.AppendOwnNone
namespace Go.Proofs.Ytdcmjbebkmicaaa
open Go.RowKit Go.Sort Go.Lib

theorem exec_eql_mv (ev : Operand → Value) (o : Oper) (x y : Operand) (t : TypeId) (m n : Mv) (w : World) (ho : o.op = .binOp .eql 33 x y t)
    (hx : ev x = .agg #[.int .i8 m.1, .int .i8 m.2.1, .int .u8 m.2.2.1, .int .u8 m.2.2.2.1, .bool m.2.2.2.2]) (hy : ev y = .agg #[.int .i8 n.1, .int .i8 n.2.1, .int .u8 n.2.2.1, .int .u8 n.2.2.2.1, .bool n.2.2.2.2]) :
    (execOp ev o).run Try.prog w = .ok (.value (.bool (m == n))) w := by
  obtain ⟨f, g, p, d, c⟩ := m
  obtain ⟨f', g', p', d', c'⟩ := n
  unfold execOp
  simp only [ho, hx, hy]
  by_cases h1 : f = f'
  · subst h1
    by_cases h2 : g = g'
    · subst h2
      by_cases h3 : p = p'
      · subst h3
        by_cases h4 : d = d'
        · subst h4
          by_cases h5 : c = c'
          · subst h5
            simp [go_sem]
          · simp [go_sem, h5]
        · simp [go_sem, h4]
      · simp [go_sem, h3]
    · simp [go_sem, h2]
  · simp [go_sem, h1]
theorem exec_neq_mv (ev : Operand → Value) (o : Oper) (x y : Operand) (t : TypeId) (m n : Mv) (w : World) (ho : o.op = .binOp .neq 33 x y t)
    (hx : ev x = .agg #[.int .i8 m.1, .int .i8 m.2.1, .int .u8 m.2.2.1, .int .u8 m.2.2.2.1, .bool m.2.2.2.2]) (hy : ev y = .agg #[.int .i8 n.1, .int .i8 n.2.1, .int .u8 n.2.2.1, .int .u8 n.2.2.2.1, .bool n.2.2.2.2]) :
    (execOp ev o).run Try.prog w = .ok (.value (.bool (m != n))) w := by
  obtain ⟨f, g, p, d, c⟩ := m
  obtain ⟨f', g', p', d', c'⟩ := n
  unfold execOp
  simp only [ho, hx, hy]
  by_cases h1 : f = f'
  · subst h1
    by_cases h2 : g = g'
    · subst h2
      by_cases h3 : p = p'
      · subst h3
        by_cases h4 : d = d'
        · subst h4
          by_cases h5 : c = c'
          · subst h5
            simp [go_sem]
          · have : ((f, g, p, d, c) != (f, g, p, d, c')) = true := by simp [h5]
            simp [go_sem, h5, this]
        · have : ((f, g, p, d, c) != (f, g, p, d', c')) = true := by simp [h4]
          simp [go_sem, h4, this]
      · have : ((f, g, p, d, c) != (f, g, p', d', c')) = true := by simp [h3]
        simp [go_sem, h3, this]
    · have : ((f, g, p, d, c) != (f, g', p', d', c')) = true := by simp [h2]
      simp [go_sem, h2, this]
  · have : ((f, g, p, d, c) != (f', g', p', d', c')) = true := by simp [h1]
    simp [go_sem, h1, this]
/-- Two moves are compared, in a region that draws. -/
theorem quiet_eql_mv {S : World → Prop} {K : Act → Prop} {a : Act} {o : Oper} (x y : Operand) (t : TypeId) (ho : o.op = .binOp .eql 33 x y t)
    (h : ∃ m n : Mv, a.eval x = .agg #[.int .i8 m.1, .int .i8 m.2.1, .int .u8 m.2.2.1, .int .u8 m.2.2.2.1, .bool m.2.2.2.2] ∧ a.eval y = .agg #[.int .i8 n.1, .int .i8 n.2.1, .int .u8 n.2.2.1, .int .u8 n.2.2.2.1, .bool n.2.2.2.2] ∧ K (a.put o.dst (.bool (m == n)))) : o.quiet Try.prog a S K := by
  obtain ⟨m, n, hx, hy, hk⟩ := h
  refine ⟨_, fun w' _ => ?_, hk⟩
  unfold Oper.quietAt
  simp only [exec_eql_mv a.eval o x y t m n w' ho hx hy]
  exact ⟨rfl, rfl⟩
theorem quiet_neq_mv {S : World → Prop} {K : Act → Prop} {a : Act} {o : Oper} (x y : Operand) (t : TypeId) (ho : o.op = .binOp .neq 33 x y t)
    (h : ∃ m n : Mv, a.eval x = .agg #[.int .i8 m.1, .int .i8 m.2.1, .int .u8 m.2.2.1, .int .u8 m.2.2.2.1, .bool m.2.2.2.2] ∧ a.eval y = .agg #[.int .i8 n.1, .int .i8 n.2.1, .int .u8 n.2.2.1, .int .u8 n.2.2.2.1, .bool n.2.2.2.2] ∧ K (a.put o.dst (.bool (m != n)))) : o.quiet Try.prog a S K := by
  obtain ⟨m, n, hx, hy, hk⟩ := h
  refine ⟨_, fun w' _ => ?_, hk⟩
  unfold Oper.quietAt
  simp only [exec_neq_mv a.eval o x y t m n w' ho hx hy]
  exact ⟨rfl, rfl⟩
/-- A move in a box is loaded, in a region that draws. -/
theorem quiet_load_mvbox {K : Act → Prop} {a : Act} {o : Oper} {w : World} (x : Operand) (ho : o.op = .load 33 x)
    (h : ∃ (g : Nat) (T : TypeId) (m : Mv), a.eval x = .pointer (some ⟨g, 0, none⟩) ∧ RowAt w g T #[.int .i8 m.1, .int .i8 m.2.1, .int .u8 m.2.2.1, .int .u8 m.2.2.2.1, .bool m.2.2.2.2] ∧ K (a.put o.dst (.agg #[.int .i8 m.1, .int .i8 m.2.1, .int .u8 m.2.2.1, .int .u8 m.2.2.2.1, .bool m.2.2.2.2]))) : o.quiet Try.prog a (fun w' => ∃ p : GrownBy, w' = grow (w.drewN p.n) p.os) K := by
  obtain ⟨g, T, m, hx, hp, hk⟩ := h
  exact quiet_load_mv x ho ⟨g, T, _, hx, hp, rfl, hk⟩

set_option maxRecDepth 100000 in
set_option maxHeartbeats 2000000 in
/-- How often a move is in a row. -/
theorem count_any (l : List Mv) (v : Value) (m : Mv) (w : World) (hr : M.Reads w v l) (hN : l.length ≤ 100000) :
    Calls Try.prog 20 #[v, .agg #[.int .i8 m.1, .int .i8 m.2.1, .int .u8 m.2.2.1, .int .u8 m.2.2.2.1, .bool m.2.2.2.2]] w fun e w' => e = .returned (.int .i64 (l.count m : Int)) ∧ Grows w w' := by
  obtain ⟨ao, cap, rfl, h1, h2, h3, h4⟩ := hr
  obtain ⟨A, hA⟩ : ∃ A : Array Value, #[.int .i8 m.1, .int .i8 m.2.1, .int .u8 m.2.2.1, .int .u8 m.2.2.2.1, .bool m.2.2.2.2] = A := ⟨_, rfl⟩
  have HG : Grows w (w.alloc (.cells A 33)) := Grows.alloc _ _
  have HV := Lib.hid (RowAt.new w A 33)
  by_cases h0 : 0 < l.length
  · obtain ⟨b, off, rfl, hb, hcell⟩ := h4 h0
    have HA := Lib.hid (fun W (hb' : Below w.heap.size w W) i x (hx : l[i]? = some x) => (show M.At W b (off + i * 5) x from fun j u hu => by
      have hh := hcell (i * 5 + j) u (M.cells_at l i x hx j u hu)
      rw [Nat.add_assoc]
      exact (hb'.cell (p := ⟨b, off + (i * 5 + j), none⟩) hb).trans hh))
    clear hcell h4 h3
    obtain ⟨q, hq⟩ : ∃ q, l.length = q := ⟨_, rfl⟩
    have Hq := Lib.hid hq
    rw [hq] at h0 h1 hN ⊢
    rw [hA]
    have HAA := Lib.hid hA
    clear hq hA
    have hcl : ∀ n, (l.take n).count m ≤ n := fun n => Nat.le_trans List.count_le_length (by rw [List.length_take]; omega)
    have HC := Lib.hid hcl
    clear hcl
    go_enter Try.func20, Try.ntmps20
    go_wp2
    go_loopw [5, 6] (fun vk vi wr => ∃ n k : Nat, n ≤ q ∧ vi = .int .i64 (n : Int) ∧ vk = .int .i64 (k : Int) ∧ Hid ((l.take n).count m = k) ∧ k ≤ n ∧ Grows (w.alloc (.cells A 33)) wr) (fun _ vi _ => q - (intOf vi).toNat)
    case atStart => exact ⟨0, 0, by omega, rfl, rfl, Lib.hid (by simp), by omega, Grows.refl _⟩
    case round =>
      obtain ⟨n, k, hn, rfl, rfl, HK, hkn, hgr⟩ := hrel
      have hgw := HG.trans hgr
      by_cases hlt : n < q
      · obtain ⟨x, hx⟩ : ∃ x, l[n]? = some x := ⟨_, List.getElem?_eq_getElem (by rw [Hq.out]; exact hlt)⟩
        have ha := HA.out wr hgw.below n _ hx
        have hv := HV.out.below hgr.below
        rw [← HAA.out] at hv
        have hbs := Nat.lt_of_lt_of_le hb hgw.below.size
        have hk2 : (l.take (n + 1)).count m = k + if (x == m) = true then 1 else 0 := by
          rw [List.take_add_one, hx, List.count_append, HK.out]
          simp [List.count_cons]
        have HK2 := Lib.hid hk2
        clear hk2 hx
        obtain ⟨bb, hbb⟩ : ∃ bb, (x == m) = bb := ⟨_, rfl⟩
        rw [hbb] at HK2
        go_wp2_with fail
        refine region_grows (by kernel_rfl) (by kernel_rfl) ?_
        repeat (first
          | (go_big_quiet_want; refine quiet_load_at _ rfl ⟨_, _, _, rfl, ha, ?_⟩; simp only [Act.put, List.setIfInBounds_toArray, List.set_cons_succ, List.set_cons_zero]; go_big_quiet_on)
          | (go_big_quiet_want; refine quiet_load_mvbox _ rfl ⟨_, _, _, rfl, hv, ?_⟩; simp only [Act.put, List.setIfInBounds_toArray, List.set_cons_succ, List.set_cons_zero]; go_big_quiet_on)
          | (go_big_quiet_want; refine quiet_eql_mv _ _ _ rfl ⟨x, m, rfl, rfl, ?_⟩; simp only [hbb, Act.put, List.setIfInBounds_toArray, List.set_cons_succ, List.set_cons_zero]; go_big_quiet_on)
          | go_big_quiet_step (fail))
        refine wpQuiet_nil ?_
        intro w4 hg4
        clear hbb ha hv
        cases bb
        · go_wp2_with fail
          exact ⟨⟨n + 1, k, by omega, by go_num, rfl, Lib.hid HK2.out, by omega, hgr.trans hg4⟩, by simp [intOf]; omega⟩
        · go_wp2_with fail
          exact ⟨⟨n + 1, k + 1, by omega, by go_num, by go_num, Lib.hid HK2.out, by omega, hgr.trans hg4⟩, by simp [intOf]; omega⟩
      · obtain rfl : n = q := by omega
        have hk2 : l.count m = k := by rw [← HK.out, List.take_of_length_le (by rw [Hq.out]; exact Nat.le_refl _)]
        have HK2 := Lib.hid hk2
        clear hk2
        go_wp2_with fail
        go_ret
        exact ⟨by rw [HK2.out]; rfl, hgw⟩
  · have hz : l = [] := List.eq_nil_of_length_eq_zero (by omega)
    subst hz
    rw [hA]
    go_enter Try.func20, Try.ntmps20
    go_wp2
    refine wp_loop_rounds 1 ?_
    rw [rounds_succ]
    go_wp2
    go_ret
    exact ⟨rfl, HG⟩
end Go.Proofs.Ytdcmjbebkmicaaa
