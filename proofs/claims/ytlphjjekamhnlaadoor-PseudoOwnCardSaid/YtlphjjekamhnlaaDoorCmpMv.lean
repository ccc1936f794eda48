/- Two moves compared, in a region that draws: one step. -/
import Derived.Test.YtlphjjekamhnlaaDoorLaw13b
import Derived.Test.YtlphjjekamhnlaaDoorLaw13l
import Derived.Test.YtlphjjekamhnlaaDoorLawX
namespace Go.Proofs.YtlphjjekamhnlaaDoor
open Go.RowKit Go.Sort

theorem exec_eql_mv (ev : Operand → Value) (o : Oper) (x y : Operand) (t : TypeId) (m n : Mv) (w : World) (ho : o.op = .binOp .eql 36 x y t)
    (hx : ev x = .agg #[.int .i8 m.1, .int .i8 m.2.1, .int .u8 m.2.2.1, .int .u8 m.2.2.2.1, .bool m.2.2.2.2]) (hy : ev y = .agg #[.int .i8 n.1, .int .i8 n.2.1, .int .u8 n.2.2.1, .int .u8 n.2.2.2.1, .bool n.2.2.2.2]) :
    (execOp ev o).run Tryd.prog w = .ok (.value (.bool (m == n))) w := by
  obtain ⟨f, g, p, d, c⟩ := m
  obtain ⟨f', g', p', d', c'⟩ := n
  unfold execOp
  simp only [ho, hx, hy]
  by_cases h1 : f = f'
  · subst h1
    by_cases h2 : g = g'
    · subst h2
      by_cases h3 : p = p'
      · subst h3
        by_cases h4 : d = d'
        · subst h4
          by_cases h5 : c = c'
          · subst h5
            simp [go_sem]
          · simp [go_sem, h5]
        · simp [go_sem, h4]
      · simp [go_sem, h3]
    · simp [go_sem, h2]
  · simp [go_sem, h1]
/-- Two moves are compared, in a region that draws. -/
theorem quiet_eql_mv {S : World → Prop} {K : Act → Prop} {a : Act} {o : Oper} (x y : Operand) (t : TypeId) (ho : o.op = .binOp .eql 36 x y t)
    (h : ∃ m n : Mv, a.eval x = .agg #[.int .i8 m.1, .int .i8 m.2.1, .int .u8 m.2.2.1, .int .u8 m.2.2.2.1, .bool m.2.2.2.2] ∧ a.eval y = .agg #[.int .i8 n.1, .int .i8 n.2.1, .int .u8 n.2.2.1, .int .u8 n.2.2.2.1, .bool n.2.2.2.2] ∧ K (a.put o.dst (.bool (m == n)))) : o.quiet Tryd.prog a S K := by
  obtain ⟨m, n, hx, hy, hk⟩ := h
  refine ⟨_, fun w' _ => ?_, hk⟩
  unfold Oper.quietAt
  simp only [exec_eql_mv a.eval o x y t m n w' ho hx hy]
  exact ⟨rfl, rfl⟩

/-- What a slice of moves reads, opened. -/
theorem mrow_open {w w' : World} {base : Nat} {y : Value} {l : List Mv} (_ : Below w.heap.size w w') (hown : w'.ownsRow base 36 5 y l.length (M.cells l)) :
    ∃ ao cap, y = .slice ao l.length cap ∧ l.length ≤ cap ∧ cap ≤ maxLen ∧ (0 < l.length → ∃ b, ao = some ⟨b, 0, none⟩ ∧ b < w'.heap.size ∧ ∀ i m, l[i]? = some m → M.At w' b (i * 5) m) := by
  obtain ⟨ao, cap, rfl, h1, h2, h3⟩ := M.row_open hown
  refine ⟨ao, cap, rfl, h1, h2, fun h => ?_⟩
  obtain ⟨b, rfl, _, hb, hc⟩ := h3 h
  exact ⟨b, rfl, hb, fun i m hm => M.at_of hc i m hm⟩
def anyTo (l : List Mv) (x : Mv) (k : Nat) : Bool := (l.take k).any fun y => y == x
theorem anyTo_succ {l : List Mv} {k : Nat} {y : Mv} (x : Mv) (h : l[k]? = some y) : anyTo l x (k + 1) = (anyTo l x k || (y == x)) := by
  unfold anyTo
  rw [List.take_add_one, h]
  simp
theorem anyTo_mem {l : List Mv} {x : Mv} (h : x ∈ l) : anyTo l x l.length = true := by
  unfold anyTo
  rw [List.take_length, List.any_eq_true]
  exact ⟨x, h, by simp⟩
theorem posOk_zero (c : Nat → Int) (n : Nat) (hn : n < 64) (hc : PosOk c) : PosOk (upd c (1 + n) 0) := fun i hi => by
  unfold upd
  split
  · rename_i h
    rw [h, pk_board hn]
    rfl
  · exact hc i hi
theorem law13_own (c : Nat → Int) (n : Nat) (hc : PosOk c) (hl : law13 c = true) (hn : n < 64) (hx : c (1 + n) ≠ 0) (hxt : c (1 + n) / 8 = c 78) : ∃ t : Nat, c 78 = (t : Int) ∧ t ≤ 1 ∧ Z.ok c = true ∧ D.lst c = D.list13 c t ∧ D.own c n (t : Int) = true := by
  obtain ⟨t0, _⟩ := pos_u8 hc (i := 78) (by decide) rfl
  unfold law13 at hl
  simp only [Bool.and_eq_true, decide_eq_true_eq] at hl
  obtain ⟨hlw, h2, h9, _⟩ := hl
  have hok : Z.ok c = true := by
    unfold Z.ok
    rw [decide_eq_true (by omega)]
  refine ⟨(c 78).toNat, by omega, by omega, hok, by unfold D.lst; rw [if_pos hok], ?_⟩
  have hk := lawful_k c (pos_bd hc) hlw n hn
  unfold D.own D.empty D.color
  rw [hxt]
  have h3 : (P.kind (c (1 + n)) == 0) = false := by
    have : (c (1 + n) != 0) = true := by simpa using hx
    rw [this] at hk
    simpa using hk
  rw [h3]
  simp
  omega
theorem less13 (c : Nat → Int) (n : Nat) (hc : PosOk c) (hl : law13 c = true) (hn : n < 64) (hx : c (1 + n) ≠ 0) (hxt : c (1 + n) / 8 = c 78) : ∀ x ∈ D.lst c, x.1 ≠ (n : Int) → x ∈ D.lst (upd c (1 + n) 0) := by
  obtain ⟨t, ht, ht1, hok, hls, hown⟩ := law13_own c n hc hl hn hx hxt
  intro x hx hne
  rw [hls] at hx
  have h78 : upd c (1 + n) 0 78 = c 78 := by unfold upd; rw [if_neg (by omega)]
  have h0 : upd c (1 + n) 0 0 = c 0 := by unfold upd; rw [if_neg (by omega)]
  have hok' : Z.ok (upd c (1 + n) 0) = true := by
    unfold Z.ok at hok ⊢
    rw [h78, h0]
    exact hok
  unfold D.lst
  rw [if_pos hok', h78, ht, Int.toNat_natCast]
  exact list_less c t n (pos_bd hc) hn hown x hx hne
theorem law13_bd (c : Nat → Int) (h : law13 c = true) : lawB c = true ∧ c 78 < 2 ∧ Z.ok c = (decide (c 78 ≤ 1 ∧ c 0 < 9)) ∧ c 0 < 9 := by
  unfold law13 at h
  simp at h
  exact ⟨h.1, h.2.1, rfl, h.2.2.1⟩
end Go.Proofs.YtlphjjekamhnlaaDoor
