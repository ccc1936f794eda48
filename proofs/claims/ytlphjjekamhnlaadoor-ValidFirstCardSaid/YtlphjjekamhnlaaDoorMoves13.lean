/- Rows of moves; the document's Same. -/
import Derived.Test.YtlphjjekamhnlaaDoorRow
namespace Go.Proofs.YtlphjjekamhnlaaDoor
open Go.RowKit Go.Sort
attribute [local go_sem] Oper.semAt_some

/-- A move: from, to, what it becomes, what is dropped, whether it is a castling. -/
abbrev Mv := Int × Int × Int × Int × Bool
namespace M
theorem below_drew {B : Nat} {a w : World} (h : Below B a w) (n : Nat) : Below B a (w.drewN n) := ⟨h.os, h.tape, h.output, h.size, h.block⟩
def cell (m : Mv) : List Value := [.int .i8 m.1, .int .i8 m.2.1, .int .u8 m.2.2.1, .int .u8 m.2.2.2.1, .bool m.2.2.2.2]
def cells (l : List Mv) : List Value := l.flatMap cell
theorem cells_snoc (l : List Mv) (x : Mv) : cells (l ++ [x]) = cells l ++ cell x := by simp [cells]
theorem cells_at (l : List Mv) (i : Nat) (x : Mv) (h : l[i]? = some x) (j : Nat) (v : Value) (hv : (cell x)[j]? = some v) : (cells l)[i * 5 + j]? = some v := by
  induction l generalizing i with
  | nil => cases h
  | cons a l ih =>
    unfold cells
    rw [List.flatMap_cons]
    cases i with
    | zero =>
      simp at h
      subst h
      have : j < (cell a).length := (List.getElem?_eq_some_iff.1 hv).1
      rw [List.getElem?_append_left (by omega), Nat.zero_mul, Nat.zero_add, hv]
    | succ i =>
      rw [List.getElem?_append_right (by simp [cell]; omega), show (i + 1) * 5 + j - (cell a).length = i * 5 + j by simp [cell]; omega]
      exact ih i (by simpa using h)
/-- A move stands at its place. -/
def At (w : World) (b off : Nat) (x : Mv) : Prop := w.rangeAt b off (cell x)
theorem at_of {w : World} {b : Nat} {l : List Mv} (h : ∀ j u, (cells l)[j]? = some u → w.cell? ⟨b, j, none⟩ = some u) (i : Nat) (x : Mv) (hx : l[i]? = some x) : At w b (i * 5) x := fun j v hv => h _ _ (cells_at l i x hx j v hv)
theorem At.below {w w' : World} {b off : Nat} {x : Mv} (h : At w b off x) (hb : Below w.heap.size w w') : At w' b off x := fun j v hv => by
  have := h j v hv
  exact (hb.cell (p := ⟨b, off + j, none⟩) (World.block_lt_of_cell? w _ this)).trans this
theorem At.five {w : World} {b off : Nat} {f g p d : Int} {c : Bool} (h : At w b off (f, g, p, d, c)) : w.cell? ⟨b, off, none⟩ = some (.int .i8 f) ∧ w.cell? ⟨b, off + 1, none⟩ = some (.int .i8 g) ∧ w.cell? ⟨b, off + 2, none⟩ = some (.int .u8 p) ∧ w.cell? ⟨b, off + 3, none⟩ = some (.int .u8 d) ∧ w.cell? ⟨b, off + 4, none⟩ = some (.bool c) :=
  ⟨h 0 _ rfl, h 1 _ rfl, h 2 _ rfl, h 3 _ rfl, h 4 _ rfl⟩
/-- A row that is owned, or none. -/
theorem row_open {w : World} {base : Nat} {e : TypeId} {v : Value} {n : Nat} {xs : List Value} (h : w.ownsRow base e 5 v n xs) :
    ∃ ao cap, v = .slice ao n cap ∧ n ≤ cap ∧ cap ≤ maxLen ∧ (0 < n → ∃ b, ao = some ⟨b, 0, none⟩ ∧ base ≤ b ∧ b < w.heap.size ∧ ∀ j u, xs[j]? = some u → w.cell? ⟨b, j, none⟩ = some u) := by
  rcases h.2 with ⟨rfl, rfl⟩ | ⟨g, cap, cur, rfl, hb, hg, hnc, hcm, hcs, htake⟩
  · exact ⟨_, _, rfl, Nat.le_refl _, by unfold maxLen; omega, fun h => absurd h (by omega)⟩
  · refine ⟨_, cap, rfl, hnc, hcm, fun _ => ⟨g, rfl, hb, (Array.getElem?_eq_some_iff.1 hg).1, ?_⟩⟩
    intro j u hu
    rw [← htake, List.getElem?_take] at hu
    split at hu
    · simp only [World.cell?, hg]
      simpa using hu
    · cases hu
/-- Alike so far. -/
def alike (a b : List Mv) (n : Nat) : Prop := a.take n = b.take n
theorem alike_succ {a b : List Mv} {n : Nat} {x : Mv} (h : alike a b n) (ha : a[n]? = some x) (hb : b[n]? = some x) : alike a b (n + 1) := by
  unfold alike at *
  rw [List.take_add_one, List.take_add_one, h, ha, hb]
theorem differ {a b : List Mv} {n : Nat} {x y : Mv} (ha : a[n]? = some x) (hb : b[n]? = some y) (h : x ≠ y) : (a == b) = false := by
  rw [beq_eq_false_iff_ne]
  intro e
  subst e
  rw [ha] at hb
  exact h (Option.some.inj hb)
end M

set_option maxRecDepth 100000 in
set_option maxHeartbeats 2000000 in
theorem same13_any (la lb : List Mv) (va vb : Value) (ba bb : Nat) (T : TypeId) (w : World) (ha : w.ownsRow ba T 5 va la.length (M.cells la)) (hb : w.ownsRow bb T 5 vb lb.length (M.cells lb)) :
    Calls Tryd.prog 13 #[va, vb] w fun e w' => e = .returned (.bool (la == lb)) ∧ Below w.heap.size w w' := by
  obtain ⟨aa, ca, rfl, hca, hma, hA⟩ := M.row_open ha
  obtain ⟨ab, cb, rfl, hcb, hmb, hB⟩ := M.row_open hb
  unfold maxLen at hma hmb
  by_cases hlen : la.length = lb.length
  · by_cases h0 : 0 < la.length
    · obtain ⟨b1, rfl, _, l1, hA⟩ := hA h0
      obtain ⟨b2, rfl, _, l2, hB⟩ := hB (by omega)
      have HA := Lib.hid (fun W (hb : Below w.heap.size w W) i x (hx : la[i]? = some x) => (M.at_of hA i x hx).below hb)
      have HB := Lib.hid (fun W (hb : Below w.heap.size w W) i x (hx : lb[i]? = some x) => (M.at_of hB i x hx).below hb)
      clear hA hB ha hb
      obtain ⟨q, hq⟩ : ∃ q, la.length = q := ⟨_, rfl⟩
      have hq2 : lb.length = q := by omega
      have Hq := Lib.hid (And.intro hq hq2)
      rw [hq] at hca h0 ⊢
      rw [hq2] at hcb ⊢
      clear hlen hq hq2
      go_enter Tryd.func13, Tryd.ntmps13
      go_wp2
      go_loopw [5] (fun i wr => ∃ n : Nat, n ≤ q ∧ i = .int .i64 (n : Int) ∧ M.alike la lb n ∧ Below w.heap.size w wr) (fun i _ => q - (intOf i).toNat)
      case atStart => exact ⟨0, by omega, rfl, rfl, Below.refl _ _⟩
      case round =>
        obtain ⟨n, hn, rfl, hal, hbr⟩ := hrel
        have Hal := Lib.hid hal
        clear hal
        by_cases hlt : n < q
        · obtain ⟨⟨f, g, p, d, c⟩, hx⟩ : ∃ m, la[n]? = some m := ⟨_, List.getElem?_eq_getElem (by rw [Hq.out.1]; exact hlt)⟩
          obtain ⟨⟨f', g', p', d', c'⟩, hy⟩ : ∃ m, lb[n]? = some m := ⟨_, List.getElem?_eq_getElem (by rw [Hq.out.2]; exact hlt)⟩
          obtain ⟨m0, m1, m2, m3, m4⟩ := (HA.out wr hbr n _ hx).five
          obtain ⟨k0, k1, k2, k3, k4⟩ := (HB.out wr hbr n _ hy).five
          have Hx := Lib.hid (And.intro hx hy)
          clear hx hy
          by_cases h1 : f = f'
          · subst h1
            by_cases h2 : g = g'
            · subst h2
              by_cases h3 : p = p'
              · subst h3
                by_cases h4 : d = d'
                · subst h4
                  by_cases h5 : c = c'
                  · subst h5
                    go_wp2
                    go_quiet (fail)
                    go_wp2
                    exact ⟨⟨n + 1, by omega, by go_num, M.alike_succ Hal.out Hx.out.1 Hx.out.2, M.below_drew hbr nq⟩, by simp [intOf]; omega⟩
                  · have e5 : (c == c') = false := by simpa using h5
                    have Hd := Lib.hid (M.differ Hx.out.1 Hx.out.2 (fun e => h5 (by injections)))
                    clear h5
                    go_wp2
                    go_quiet (fail)
                    go_wp2
                    go_ret
                    exact ⟨ret_bool Hd.out.symm, M.below_drew hbr nq⟩
                · have e5 : (d == d') = false := by simpa using h4
                  have Hd := Lib.hid (M.differ Hx.out.1 Hx.out.2 (fun e => h4 (by injections)))
                  clear h4
                  go_wp2
                  go_quiet (fail)
                  go_wp2
                  go_ret
                  exact ⟨ret_bool Hd.out.symm, M.below_drew hbr nq⟩
              · have e5 : (p == p') = false := by simpa using h3
                have Hd := Lib.hid (M.differ Hx.out.1 Hx.out.2 (fun e => h3 (by injections)))
                clear h3
                go_wp2
                go_quiet (fail)
                go_wp2
                go_ret
                exact ⟨ret_bool Hd.out.symm, M.below_drew hbr nq⟩
            · have e5 : (g == g') = false := by simpa using h2
              have Hd := Lib.hid (M.differ Hx.out.1 Hx.out.2 (fun e => h2 (by injections)))
              clear h2
              go_wp2
              go_quiet (fail)
              go_wp2
              go_ret
              exact ⟨ret_bool Hd.out.symm, M.below_drew hbr nq⟩
          · have e5 : (f == f') = false := by simpa using h1
            have Hd := Lib.hid (M.differ Hx.out.1 Hx.out.2 (fun e => h1 (by injections)))
            clear h1
            go_wp2
            go_quiet (fail)
            go_wp2
            go_ret
            exact ⟨ret_bool Hd.out.symm, M.below_drew hbr nq⟩
        · obtain rfl : n = q := by omega
          have he : (la == lb) = true := by
            have := Hal.out
            unfold M.alike at this
            rw [List.take_of_length_le (by rw [Hq.out.1]; exact Nat.le_refl _), List.take_of_length_le (by rw [Hq.out.2]; exact Nat.le_refl _)] at this
            rw [this]; simp
          have He := Lib.hid he
          clear he
          go_wp2
          go_ret
          exact ⟨ret_bool He.out.symm, hbr⟩
    · have e1 : la = [] := by cases la with | nil => rfl | cons x l => simp at h0
      have e2 : lb = [] := by cases lb with | nil => rfl | cons x l => simp [e1] at hlen
      subst e1 e2
      clear ha hb hA hB hlen h0
      go_enter Tryd.func13, Tryd.ntmps13
      go_wp2
      go_loopw [5] (fun i wr => i = .int .i64 0 ∧ Below w.heap.size w wr) (fun _ _ => 0)
      case atStart => exact ⟨rfl, Below.refl _ _⟩
      case round =>
        obtain ⟨rfl, hbr⟩ := hrel
        go_wp2
        go_ret
        exact ⟨rfl, hbr⟩
  · have he : (la == lb) = false := by rw [beq_eq_false_iff_ne]; intro e; exact hlen (by rw [e])
    have He := Lib.hid he
    have hI : ((la.length : Int) == (lb.length : Int)) = false := by simp; omega
    clear he ha hb hA hB
    go_enter Tryd.func13, Tryd.ntmps13
    go_wp2
    go_ret
    exact ⟨ret_bool He.out.symm, Below.refl _ _⟩

end Go.Proofs.YtlphjjekamhnlaaDoor
