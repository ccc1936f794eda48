/- A row of moves that is owned, one of them written anew. -/
import Derived.Test.YtdcmjbebkmicaaaOrdQ
import Derived.Deep.MidRow
namespace Go.Proofs.Ytdcmjbebkmicaaa
open Go.RowKit Go.Sort Go.Lib

namespace M
theorem cell_len5 (m : Mv) : (cell m).length = 5 := rfl
theorem cells_get2 (l : List Mv) (k : Nat) : (cells l)[k]? = (l[k / 5]?).bind fun m => (cell m)[k % 5]? := by
  induction l generalizing k with
  | nil => simp [cells]
  | cons a l ih =>
    unfold cells
    rw [List.flatMap_cons]
    by_cases h : k < 5
    · rw [List.getElem?_append_left (by rw [cell_len5]; exact h), Nat.div_eq_of_lt h, Nat.mod_eq_of_lt h]; rfl
    · obtain ⟨j, rfl⟩ : ∃ j, k = j + 5 := ⟨k - 5, by omega⟩
      rw [List.getElem?_append_right (by rw [cell_len5]; omega), cell_len5, Nat.add_sub_cancel, show (j + 5) / 5 = j / 5 + 1 by omega, show (j + 5) % 5 = j % 5 by omega, List.getElem?_cons_succ]
      exact ih j
/-- Some cells of an array, written one behind another. -/
def setSeg (cur : Array Value) : Nat → List Value → Array Value
  | _, [] => cur
  | o, v :: r => setSeg (cur.setIfInBounds o v) (o + 1) r
theorem setSeg_size : ∀ (vs : List Value) (o : Nat) (cur : Array Value), (setSeg cur o vs).size = cur.size
  | [], _, _ => rfl
  | v :: r, o, cur => by unfold setSeg; rw [setSeg_size r, Array.size_setIfInBounds]
theorem setSeg_get : ∀ (vs : List Value) (o : Nat) (cur : Array Value) (k : Nat), (setSeg cur o vs)[k]? = if (o ≤ k ∧ k < o + vs.length) ∧ k < cur.size then vs[k - o]? else cur[k]?
  | [], o, cur, k => by unfold setSeg; rw [if_neg (by simp; omega)]
  | v :: r, o, cur, k => by
    unfold setSeg
    rw [setSeg_get r (o + 1) _ k, Array.size_setIfInBounds, Array.getElem?_setIfInBounds]
    by_cases h1 : o + 1 ≤ k ∧ k < o + 1 + r.length
    · by_cases h2 : k < cur.size
      · rw [if_pos ⟨h1, h2⟩, if_pos ⟨⟨by omega, by simp; omega⟩, h2⟩, show k - o = (k - (o + 1)) + 1 by omega, List.getElem?_cons_succ]
      · rw [if_neg (fun h => h2 h.2), if_neg (show ¬ ((o ≤ k ∧ k < o + (v :: r).length) ∧ k < cur.size) from fun h => h2 h.2), if_neg (show ¬ o = k by omega)]
    · rw [if_neg (fun h => h1 h.1)]
      by_cases h3 : o = k
      · subst h3
        rw [if_pos rfl]
        by_cases h2 : o < cur.size
        · rw [if_pos h2, if_pos ⟨⟨Nat.le_refl _, by simp⟩, h2⟩, Nat.sub_self]; rfl
        · rw [if_neg h2, if_neg (fun h => h2 h.2), Array.getElem?_eq_none (by omega)]
      · rw [if_neg h3, if_neg (show ¬ ((o ≤ k ∧ k < o + (v :: r).length) ∧ k < cur.size) from fun h => h1 ⟨by omega, by have := h.1.2; simp at this; omega⟩)]
theorem put_setCells (g : Nat) : ∀ (vs : List Value) (o : Nat) (w : World), Put g w (w.setCells g o vs)
  | [], _, _ => Put.refl _ _
  | v :: r, o, w => (put_setCell w g o v).trans (put_setCells g r (o + 1) _)
theorem heap_setCellsO (g : Nat) (e : TypeId) : ∀ (vs : List Value) (o : Nat) (w : World) (cur : Array Value), w.heap[g]? = some (.cells cur e (0, 0)) → (w.setCells g o vs).heap[g]? = some (.cells (setSeg cur o vs) e (0, 0))
  | [], _, _, _, h => h
  | v :: r, o, w, cur, h => by
    unfold World.setCells setSeg
    refine heap_setCellsO g e r (o + 1) _ _ ?_
    rw [setCell_eq_setRow w g o cur _ (0, 0) _ h, setRow_heap w g cur _ _ _ h]
theorem owns_set {w : World} {base n cap g : Nat} {l : List Mv} (h : w.ownsRow base 33 5 (.slice (some ⟨g, 0, none⟩) n cap) n (cells l)) (hn : l.length = n) (i : Nat) (hi : i < n) (m : Mv) :
    w.there g (i * 5) 5 ∧ (w.setCells g (i * 5) (cell m)).ownsRow base 33 5 (.slice (some ⟨g, 0, none⟩) n cap) n (cells (l.set i m)) := by
  rcases h.2 with ⟨e, _⟩ | ⟨g', cap', cur, e, hb, hg, hnc, hcm, hcs, htake⟩
  · cases e
  · injection e with e1 e2 e3
    injection e1 with e1
    injection e1 with e1 _ _
    subst e1 e3
    have hsz : n * 5 ≤ cap * 5 := Nat.mul_le_mul_right 5 hnc
    have hin : i * 5 + 5 ≤ n * 5 := by omega
    refine ⟨fun j hj => ⟨?_, by simp [World.frozen?, hg]⟩, ?_, .inr ⟨g, cap, setSeg cur (i * 5) (cell m), rfl, hb, heap_setCellsO g _ _ _ _ _ hg, hnc, hcm, by rw [setSeg_size]; exact hcs, ?_⟩⟩
    · simp only [World.cell?, hg]
      rw [Array.getElem?_eq_getElem (by omega)]; rfl
    · rw [cells_len, List.length_set, hn]
    · apply List.ext_getElem?
      intro k
      rw [List.getElem?_take]
      by_cases hk : k < n * 5
      · rw [if_pos hk, Array.getElem?_toList, setSeg_get, cells_get2, List.getElem?_set, cell_len5]
        by_cases hki : i * 5 ≤ k ∧ k < i * 5 + 5
        · rw [if_pos ⟨hki, by omega⟩, if_pos (by omega), if_pos (by omega)]
          show _ = (cell m)[k % 5]?
          congr 1
          omega
        · rw [if_neg (fun h => hki h.1), if_neg (by omega), ← cells_get2, ← htake, List.getElem?_take, if_pos hk, Array.getElem?_toList]
      · rw [if_neg hk, List.getElem?_eq_none (by rw [cells_len, List.length_set]; omega)]
end M
section
variable {ops : Array Oper} {rest : List Oper} {o : Oper} {a : Act} {w : World} {Q : Exit → Act → World → Prop} {K : Act → World → Prop}
/-- A move is written into a row. -/
theorem wp_store_own (x y : Operand) (ho : o.op = .store 33 x y) {base n cap g : Nat} {l : List Mv} (i : Nat) (m : Mv)
    (hx : a.eval x = .pointer (some ⟨g, i * 5, none⟩)) (hy : a.eval y = .agg #[.int .i8 m.1, .int .i8 m.2.1, .int .u8 m.2.2.1, .int .u8 m.2.2.2.1, .bool m.2.2.2.2]) (hn : l.length = n) (hi : i < n)
    (hown : w.ownsRow base 33 5 (.slice (some ⟨g, 0, none⟩) n cap) n (M.cells l))
    (h : ∀ W' : World, Put g w W' → W'.ownsRow base 33 5 (.slice (some ⟨g, 0, none⟩) n cap) n (M.cells (l.set i m)) → K (a.put o.dst undef) W') : o.wp Try.prog a w K Q := by
  obtain ⟨h1, h2⟩ := M.owns_set hown hn i hi m
  exact wp_store_mid 33 x y ho g (i * 5) (M.cell m).toArray hx hy h1 (Try.info_mv _ rfl) (by simp [M.cell, Value.oneCell']) (h _ (M.put_setCells g _ _ _) h2)
theorem wpl_store_own (hgd : o.guard = none) (x y : Operand) (ho : o.op = .store 33 x y) {base n cap g : Nat} {l : List Mv} (i : Nat) (m : Mv)
    (hx : a.eval x = .pointer (some ⟨g, i * 5, none⟩)) (hy : a.eval y = .agg #[.int .i8 m.1, .int .i8 m.2.1, .int .u8 m.2.2.1, .int .u8 m.2.2.2.1, .bool m.2.2.2.2]) (hn : l.length = n) (hi : i < n)
    (hown : w.ownsRow base 33 5 (.slice (some ⟨g, 0, none⟩) n cap) n (M.cells l))
    (h : ∀ W' : World, Put g w W' → W'.ownsRow base 33 5 (.slice (some ⟨g, 0, none⟩) n cap) n (M.cells (l.set i m)) → wpList Try.prog ops Q rest (a.put o.dst undef) W') : wpList Try.prog ops Q (o :: rest) a w :=
  wpList_plain hgd fun _ hK => wp_store_own x y ho i m hx hy hn hi hown (fun W' hp hw => hK _ _ (h W' hp hw))
/-- Two moves are compared, a move is loaded, in a region whose callees make memory. -/
theorem quiet_load_atB (x : Operand) {K : Act → Prop} (ho : o.op = .load 33 x)
    (h : ∃ (b off : Nat) (m : Mv), a.eval x = .pointer (some ⟨b, off, none⟩) ∧ M.At w b off m ∧ K (a.put o.dst (.agg #[.int .i8 m.1, .int .i8 m.2.1, .int .u8 m.2.2.1, .int .u8 m.2.2.2.1, .bool m.2.2.2.2]))) : o.quiet Try.prog a (fun w' => ∃ p : Regrown, w' = grow (redrawn w p.d) p.os) K := by
  obtain ⟨b, off, m, hx, hp, hk⟩ := h
  refine ⟨_, fun w' hw => ?_, hk⟩
  obtain ⟨p, rfl⟩ := hw
  have hg := hp.below (below_regrown w p.d p.os)
  unfold Oper.quietAt execOp
  simp only [ho, hx, Instr.loadAt, Instr.sureAddr, Sem.run_bind, Sem.run_pure, Result.andThen_ok, run_loadVar_mid _ b off 33 (M.cell m) _ hg Try.underlying33 rfl (Try.info_mv _ rfl)]
  exact ⟨rfl, rfl⟩
theorem quiet_load_mvB (x : Operand) {K : Act → Prop} (ho : o.op = .load 33 x)
    (h : ∃ (g : Nat) (T : TypeId) (cs : Array Value), a.eval x = .pointer (some ⟨g, 0, none⟩) ∧ RowAt w g T cs ∧ cs.size = 5 ∧ K (a.put o.dst (.agg cs))) : o.quiet Try.prog a (fun w' => ∃ p : Regrown, w' = grow (redrawn w p.d) p.os) K := by
  obtain ⟨g, T, cs, hx, hp, hs, hk⟩ := h
  refine ⟨.agg cs, fun w' hw => ?_, hk⟩
  obtain ⟨p, rfl⟩ := hw
  have hg := (hp.below (below_regrown w p.d p.os)).heap
  unfold Oper.quietAt execOp
  simp only [ho, hx, Instr.loadAt, Instr.sureAddr, Sem.run_bind, Sem.run_pure, Result.andThen_ok, run_loadVar_row _ g T 33 cs (0, 0) _ hg Try.underlying33 rfl (Try.info_mv _ hs)]
  exact ⟨rfl, rfl⟩
end

end Go.Proofs.Ytdcmjbebkmicaaa
