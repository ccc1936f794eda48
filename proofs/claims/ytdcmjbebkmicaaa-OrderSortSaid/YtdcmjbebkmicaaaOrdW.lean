/- The laws of layer 27: awake. -/
import Derived.Test.YtdcmjbebkmicaaaOrdF
namespace Go.Proofs.Ytdcmjbebkmicaaa
open Go.RowKit Go.Sort Go.Lib

theorem move_any (f t : Int) (w : World) : Calls Try.prog 31 #[.int .i8 f, .int .i8 t] w fun e w' => e = .returned (.agg #[.int .i8 f, .int .i8 t, .int .u8 0, .int .u8 0, .bool false]) ∧ Grows w w' := by
  go_enter Try.func31, Try.ntmps31
  go_wp2
  refine bodyPost_ret (v := .agg #[.int .i8 f, .int .i8 t, .int .u8 0, .int .u8 0, .bool false]) ?_ rfl ⟨rfl, Grows.alloc _ _⟩
  exact results_cell_row Try.results31 _ _ w.heap.size 33 _ (0, 0) _ rfl (heap_alloc_new _ _) Try.underlying33 rfl (Try.info_mv _ rfl)
def O.awP : Nat → Int := upd (upd (upd (upd (upd (upd (fun _ => 0) 83 (-1)) 29 1) 19 2) 4 5) 36 9) 38 12
def O.awL : List Mv := [(18, 12, 0, 0, false), (18, 35, 0, 0, false), (28, 35, 0, 0, false), (28, 37, 0, 0, false), (3, 35, 0, 0, false), (28, 36, 0, 0, false)]
def O.awS : List Mv := [(28, 37, 0, 0, false), (28, 35, 0, 0, false), (18, 35, 0, 0, false), (3, 35, 0, 0, false), (18, 12, 0, 0, false), (28, 36, 0, 0, false)]
def O.zeroP : Nat → Int := fun _ => 0
theorem O.aw_cells : (((((Try.zeroCells31.setIfInBounds 83 (.int .i8 (-1))).setIfInBounds 29 (.int .u8 1)).setIfInBounds 19 (.int .u8 2)).setIfInBounds 4 (.int .u8 5)).setIfInBounds 36 (.int .u8 9)).setIfInBounds 38 (.int .u8 12) = posC O.awP := by kernel_rfl

theorem O.awP_ok : PosOk O.awP := fun i hi => (show ∀ i : Fin 88, (Lit.int (pk i.val) (O.awP i.val)).wf = true by decide +kernel) ⟨i, hi⟩
theorem O.awL_ok : ∀ m ∈ O.awL, O.MvOk m := by
  intro m hm
  simp only [O.awL, List.mem_cons, List.not_mem_nil, or_false] at hm
  rcases hm with rfl | rfl | rfl | rfl | rfl | rfl <;> exact ⟨by decide, by decide, by decide, by decide⟩
def O.awG : Nat → Nat | 0 => 3 | 1 => 2 | 2 => 1 | 3 => 4 | 4 => 0 | n => n
def O.awH : Nat → Nat | 0 => 4 | 1 => 2 | 2 => 1 | 3 => 0 | 4 => 3 | n => n
theorem O.aw_sorted : O.Sorted O.awP O.awL O.awS := by
  refine ⟨O.awG, ⟨O.awG, O.awH, fun x => ?_, fun x => ?_, fun x hx => ?_, fun x => rfl⟩, fun x y _ hxy hy => ?_, by decide +kernel⟩
  · match x with
    | 0 => rfl | 1 => rfl | 2 => rfl | 3 => rfl | 4 => rfl | n + 5 => rfl
  · match x with
    | 0 => rfl | 1 => rfl | 2 => rfl | 3 => rfl | 4 => rfl | n + 5 => rfl
  · have h6 : O.awL.length = 6 := rfl
    match x, hx with
    | 0, h => exact absurd ⟨by omega, by omega⟩ h
    | 1, h => exact absurd ⟨by omega, by omega⟩ h
    | 2, h => exact absurd ⟨by omega, by omega⟩ h
    | 3, h => exact absurd ⟨by omega, by omega⟩ h
    | 4, h => exact absurd ⟨by omega, by omega⟩ h
    | n + 5, _ => rfl
  · have h6 : O.awL.length = 6 := rfl
    have key : ∀ y : Fin 6, ∀ x : Fin 6, x.val < y.val → (O.key O.awP (O.place O.awL (O.awG x.val)) < O.key O.awP (O.place O.awL (O.awG y.val)) ∨ (O.key O.awP (O.place O.awL (O.awG x.val)) = O.key O.awP (O.place O.awL (O.awG y.val)) ∧ O.awG x.val < O.awG y.val)) := by decide +kernel
    exact key ⟨y, by omega⟩ ⟨x, by omega⟩ hxy
/-- A move out of a row is loaded, in a region that draws. -/
theorem quiet_load_at {K : Act → Prop} {a : Act} {o : Oper} {w : World} (x : Operand) (ho : o.op = .load 33 x)
    (h : ∃ (b off : Nat) (m : Mv), a.eval x = .pointer (some ⟨b, off, none⟩) ∧ M.At w b off m ∧ K (a.put o.dst (.agg #[.int .i8 m.1, .int .i8 m.2.1, .int .u8 m.2.2.1, .int .u8 m.2.2.2.1, .bool m.2.2.2.2]))) : o.quiet Try.prog a (fun w' => ∃ p : GrownBy, w' = grow (w.drewN p.n) p.os) K := by
  obtain ⟨b, off, m, hx, hp, hk⟩ := h
  refine ⟨_, fun w' hw => ?_, hk⟩
  obtain ⟨p, rfl⟩ := hw
  have hg := hp.below (grown_below w p.n p.os)
  unfold Oper.quietAt execOp
  simp only [ho, hx, Instr.loadAt, Instr.sureAddr, Sem.run_bind, Sem.run_pure, Result.andThen_ok, run_loadVar_mid _ b off 33 (M.cell m) _ hg Try.underlying33 rfl (Try.info_mv _ rfl)]
  exact ⟨rfl, rfl⟩
theorem O.aw_taken : O.taken O.awP (28, 37, 0, 0, false) = 4 := by decide +kernel
theorem O.aw_moving : O.moving O.awP (28, 37, 0, 0, false) = 1 := by decide +kernel
namespace M
theorem row_at {w : World} {b : Nat} {T : TypeId} {l : List Mv} (h : RowAt w b T (cells l).toArray) (k : Nat) (m : Mv) (hm : l[k]? = some m) : At w b (k * 5) m := fun j u hu => by
  rw [h.cell]
  simpa using cells_at l k m hm j u hu
theorem reads_row {w : World} {b : Nat} {T : TypeId} {l : List Mv} (h : RowAt w b T (cells l).toArray) (hl : l.length ≤ maxLen := by decide) : Reads w (.slice (some ⟨b, 0, none⟩) l.length l.length) l :=
  ⟨_, _, rfl, Nat.le_refl _, hl, (fun e => by cases e), fun _ => ⟨b, 0, rfl, h.lt, fun j u hu => by
    rw [Nat.zero_add, h.cell]
    simpa using hu⟩⟩
theorem owns_open {w : World} {base : Nat} {e : TypeId} {v : Value} {n : Nat} {xs : List Value} (h : w.ownsRow base e 5 v n xs) (hn : 0 < n) :
    ∃ b cap, v = .slice (some ⟨b, 0, none⟩) n cap ∧ base ≤ b ∧ b < w.heap.size ∧ n ≤ cap ∧ cap ≤ maxLen ∧ ∀ j u, xs[j]? = some u → w.cell? ⟨b, j, none⟩ = some u := by
  obtain ⟨ao, cap, h1, h2, h3, h4⟩ := row_open h
  obtain ⟨b, rfl, k1, k2, k3⟩ := h4 hn
  exact ⟨b, cap, h1, k1, k2, h2, h3, k3⟩
end M

set_option maxRecDepth 100000 in
set_option maxHeartbeats 4000000 in
theorem awake27_any (w : World) :
    Calls Try.prog 12 #[] w fun e w' => e = .returned (.bool true) ∧ Below w.heap.size w w' := by
  go_enter Try.func12, Try.ntmps12
  go_wp2_with fail
  have hp : PosAt (w.alloc (.cells ((((((Try.zeroCells31.setIfInBounds 83 (.int .i8 (-1))).setIfInBounds 29 (.int .u8 1)).setIfInBounds 19 (.int .u8 2)).setIfInBounds 4 (.int .u8 5)).setIfInBounds 36 (.int .u8 9)).setIfInBounds 38 (.int .u8 12)) 31)) w.heap.size O.awP := by rw [O.aw_cells]; exact PosAt.new _ _
  have hg : Grows w (w.alloc (.cells ((((((Try.zeroCells31.setIfInBounds 83 (.int .i8 (-1))).setIfInBounds 29 (.int .u8 1)).setIfInBounds 19 (.int .u8 2)).setIfInBounds 4 (.int .u8 5)).setIfInBounds 36 (.int .u8 9)).setIfInBounds 38 (.int .u8 12)) 31)) := Grows.alloc _ _
  generalize (w.alloc (.cells ((((((Try.zeroCells31.setIfInBounds 83 (.int .i8 (-1))).setIfInBounds 29 (.int .u8 1)).setIfInBounds 19 (.int .u8 2)).setIfInBounds 4 (.int .u8 5)).setIfInBounds 36 (.int .u8 9)).setIfInBounds 38 (.int .u8 12)) 31)) = w0 at hp hg ⊢
  have hgp := Grows.refl w0
  have hgp := Grows.refl w0
  have hgp := Grows.refl w0
  have hgp := Grows.refl w0
  refine (move_any _ _ _).mono ?_
  rintro e w1 ⟨rfl, hg1⟩
  replace hgp := Grows.trans hgp hg1
  clear hg1
  go_wp2_with (go_at_call 31; refine (move_any _ _ _).mono ?_; rintro e w1 ⟨rfl, hg1⟩; replace hgp := Grows.trans hgp hg1; clear hg1)
  obtain ⟨W1, hW1⟩ : ∃ W1, w1.alloc (.cells #[.int .i8 18, .int .i8 12, .int .u8 0, .int .u8 0, .bool false, .int .i8 18, .int .i8 35, .int .u8 0, .int .u8 0, .bool false, .int .i8 28, .int .i8 35, .int .u8 0, .int .u8 0, .bool false, .int .i8 28, .int .i8 37, .int .u8 0, .int .u8 0, .bool false, .int .i8 3, .int .i8 35, .int .u8 0, .int .u8 0, .bool false, .int .i8 28, .int .i8 36, .int .u8 0, .int .u8 0, .bool false] 33) = W1 := ⟨_, rfl⟩
  obtain ⟨B, hB⟩ : ∃ B, w1.heap.size = B := ⟨_, rfl⟩
  have hL : RowAt W1 B 33 (M.cells O.awL).toArray := by rw [← hW1, ← hB]; exact RowAt.new w1 #[.int .i8 18, .int .i8 12, .int .u8 0, .int .u8 0, .bool false, .int .i8 18, .int .i8 35, .int .u8 0, .int .u8 0, .bool false, .int .i8 28, .int .i8 35, .int .u8 0, .int .u8 0, .bool false, .int .i8 28, .int .i8 37, .int .u8 0, .int .u8 0, .bool false, .int .i8 3, .int .i8 35, .int .u8 0, .int .u8 0, .bool false, .int .i8 28, .int .i8 36, .int .u8 0, .int .u8 0, .bool false] 33
  have hg1 : Grows w0 W1 := by rw [← hW1]; exact hgp.trans (Grows.alloc _ _)
  rw [hW1, hB]
  clear hW1 hB hgp
  have HA := Lib.hid (fun W (h : Grows W1 W) (k : Nat) (m : Mv) (hm : O.awL[k]? = some m) => (show M.At W B (k * 5) m from fun j u hu => by
    have := (hL.below h.below).cell (k * 5 + j)
    rw [this]
    simpa using M.cells_at O.awL k m hm j u hu))
  refine wp_region_held (S := fun W => Grows W1 W) (by kernel_rfl) ?_
  have hSd : Grows W1 W1.drew := Grows.drewN _ 1
  refine takeD 0 (some 24) (.slice (some ⟨B, 0, none⟩) 6 6) (by kernel_rfl) (by kernel_rfl) (by kernel_rfl) (by kernel_rfl) (by kernel_rfl) (fun _ _ _ h => h) (yi_pure (v0 := .slice (some ⟨B, 0, none⟩) 6 6) (by kernel_rfl) (fun _ => by kernel_rfl) rfl) hSd ?_
  simp only [Act.put, List.setIfInBounds_toArray, List.set_cons_succ, List.set_cons_zero]
  refine takeD 1 (some 25) (.pointer (some ⟨B, 15, none⟩)) (by kernel_rfl) (by kernel_rfl) (by kernel_rfl) (by kernel_rfl) (by kernel_rfl) (fun _ _ _ h => h) (yi_pure (v0 := .pointer (some ⟨B, 15, none⟩)) (by kernel_rfl) (fun _ => by kernel_rfl) rfl) hSd ?_
  simp only [Act.put, List.setIfInBounds_toArray, List.set_cons_succ, List.set_cons_zero]
  refine takeD 2 (some 26) (.agg #[.int .i8 28, .int .i8 37, .int .u8 0, .int .u8 0, .bool false]) (by kernel_rfl) (by kernel_rfl) (by kernel_rfl) (by kernel_rfl) (by kernel_rfl) (fun _ _ _ h => h) (yieldsIf_load_mid (by kernel_rfl) 33 (.tmp 25) (by kernel_rfl) B 15 (by kernel_rfl) [.int .i8 28, .int .i8 37, .int .u8 0, .int .u8 0, .bool false] _ (fun _ h => HA.out _ h 3 (28, 37, 0, 0, false) rfl) Try.underlying33 rfl (Try.info_mv _ rfl)) hSd ?_
  simp only [Act.put, List.setIfInBounds_toArray, List.set_cons_succ, List.set_cons_zero]
  refine takeD 3 (some 27) (.slice (some ⟨B, 0, none⟩) 6 6) (by kernel_rfl) (by kernel_rfl) (by kernel_rfl) (by kernel_rfl) (by kernel_rfl) (fun _ _ _ h => h) (yi_pure (v0 := .slice (some ⟨B, 0, none⟩) 6 6) (by kernel_rfl) (fun _ => by kernel_rfl) rfl) hSd ?_
  simp only [Act.put, List.setIfInBounds_toArray, List.set_cons_succ, List.set_cons_zero]
  refine takeD 4 (some 28) (.pointer (some ⟨B, 10, none⟩)) (by kernel_rfl) (by kernel_rfl) (by kernel_rfl) (by kernel_rfl) (by kernel_rfl) (fun _ _ _ h => h) (yi_pure (v0 := .pointer (some ⟨B, 10, none⟩)) (by kernel_rfl) (fun _ => by kernel_rfl) rfl) hSd ?_
  simp only [Act.put, List.setIfInBounds_toArray, List.set_cons_succ, List.set_cons_zero]
  refine takeD 5 (some 29) (.agg #[.int .i8 28, .int .i8 35, .int .u8 0, .int .u8 0, .bool false]) (by kernel_rfl) (by kernel_rfl) (by kernel_rfl) (by kernel_rfl) (by kernel_rfl) (fun _ _ _ h => h) (yieldsIf_load_mid (by kernel_rfl) 33 (.tmp 28) (by kernel_rfl) B 10 (by kernel_rfl) [.int .i8 28, .int .i8 35, .int .u8 0, .int .u8 0, .bool false] _ (fun _ h => HA.out _ h 2 (28, 35, 0, 0, false) rfl) Try.underlying33 rfl (Try.info_mv _ rfl)) hSd ?_
  simp only [Act.put, List.setIfInBounds_toArray, List.set_cons_succ, List.set_cons_zero]
  refine takeD 6 (some 30) (.slice (some ⟨B, 0, none⟩) 6 6) (by kernel_rfl) (by kernel_rfl) (by kernel_rfl) (by kernel_rfl) (by kernel_rfl) (fun _ _ _ h => h) (yi_pure (v0 := .slice (some ⟨B, 0, none⟩) 6 6) (by kernel_rfl) (fun _ => by kernel_rfl) rfl) hSd ?_
  simp only [Act.put, List.setIfInBounds_toArray, List.set_cons_succ, List.set_cons_zero]
  refine takeD 7 (some 31) (.pointer (some ⟨B, 5, none⟩)) (by kernel_rfl) (by kernel_rfl) (by kernel_rfl) (by kernel_rfl) (by kernel_rfl) (fun _ _ _ h => h) (yi_pure (v0 := .pointer (some ⟨B, 5, none⟩)) (by kernel_rfl) (fun _ => by kernel_rfl) rfl) hSd ?_
  simp only [Act.put, List.setIfInBounds_toArray, List.set_cons_succ, List.set_cons_zero]
  refine takeD 8 (some 32) (.agg #[.int .i8 18, .int .i8 35, .int .u8 0, .int .u8 0, .bool false]) (by kernel_rfl) (by kernel_rfl) (by kernel_rfl) (by kernel_rfl) (by kernel_rfl) (fun _ _ _ h => h) (yieldsIf_load_mid (by kernel_rfl) 33 (.tmp 31) (by kernel_rfl) B 5 (by kernel_rfl) [.int .i8 18, .int .i8 35, .int .u8 0, .int .u8 0, .bool false] _ (fun _ h => HA.out _ h 1 (18, 35, 0, 0, false) rfl) Try.underlying33 rfl (Try.info_mv _ rfl)) hSd ?_
  simp only [Act.put, List.setIfInBounds_toArray, List.set_cons_succ, List.set_cons_zero]
  refine takeD 9 (some 33) (.slice (some ⟨B, 0, none⟩) 6 6) (by kernel_rfl) (by kernel_rfl) (by kernel_rfl) (by kernel_rfl) (by kernel_rfl) (fun _ _ _ h => h) (yi_pure (v0 := .slice (some ⟨B, 0, none⟩) 6 6) (by kernel_rfl) (fun _ => by kernel_rfl) rfl) hSd ?_
  simp only [Act.put, List.setIfInBounds_toArray, List.set_cons_succ, List.set_cons_zero]
  refine takeD 10 (some 34) (.pointer (some ⟨B, 20, none⟩)) (by kernel_rfl) (by kernel_rfl) (by kernel_rfl) (by kernel_rfl) (by kernel_rfl) (fun _ _ _ h => h) (yi_pure (v0 := .pointer (some ⟨B, 20, none⟩)) (by kernel_rfl) (fun _ => by kernel_rfl) rfl) hSd ?_
  simp only [Act.put, List.setIfInBounds_toArray, List.set_cons_succ, List.set_cons_zero]
  refine takeD 11 (some 35) (.agg #[.int .i8 3, .int .i8 35, .int .u8 0, .int .u8 0, .bool false]) (by kernel_rfl) (by kernel_rfl) (by kernel_rfl) (by kernel_rfl) (by kernel_rfl) (fun _ _ _ h => h) (yieldsIf_load_mid (by kernel_rfl) 33 (.tmp 34) (by kernel_rfl) B 20 (by kernel_rfl) [.int .i8 3, .int .i8 35, .int .u8 0, .int .u8 0, .bool false] _ (fun _ h => HA.out _ h 4 (3, 35, 0, 0, false) rfl) Try.underlying33 rfl (Try.info_mv _ rfl)) hSd ?_
  simp only [Act.put, List.setIfInBounds_toArray, List.set_cons_succ, List.set_cons_zero]
  refine takeD 12 (some 36) (.slice (some ⟨B, 0, none⟩) 6 6) (by kernel_rfl) (by kernel_rfl) (by kernel_rfl) (by kernel_rfl) (by kernel_rfl) (fun _ _ _ h => h) (yi_pure (v0 := .slice (some ⟨B, 0, none⟩) 6 6) (by kernel_rfl) (fun _ => by kernel_rfl) rfl) hSd ?_
  simp only [Act.put, List.setIfInBounds_toArray, List.set_cons_succ, List.set_cons_zero]
  refine takeD 13 (some 37) (.pointer (some ⟨B, 0, none⟩)) (by kernel_rfl) (by kernel_rfl) (by kernel_rfl) (by kernel_rfl) (by kernel_rfl) (fun _ _ _ h => h) (yi_pure (v0 := .pointer (some ⟨B, 0, none⟩)) (by kernel_rfl) (fun _ => by kernel_rfl) rfl) hSd ?_
  simp only [Act.put, List.setIfInBounds_toArray, List.set_cons_succ, List.set_cons_zero]
  refine takeD 14 (some 38) (.agg #[.int .i8 18, .int .i8 12, .int .u8 0, .int .u8 0, .bool false]) (by kernel_rfl) (by kernel_rfl) (by kernel_rfl) (by kernel_rfl) (by kernel_rfl) (fun _ _ _ h => h) (yieldsIf_load_mid (by kernel_rfl) 33 (.tmp 37) (by kernel_rfl) B 0 (by kernel_rfl) [.int .i8 18, .int .i8 12, .int .u8 0, .int .u8 0, .bool false] _ (fun _ h => HA.out _ h 0 (18, 12, 0, 0, false) rfl) Try.underlying33 rfl (Try.info_mv _ rfl)) hSd ?_
  simp only [Act.put, List.setIfInBounds_toArray, List.set_cons_succ, List.set_cons_zero]
  refine takeD 15 (some 39) (.slice (some ⟨B, 0, none⟩) 6 6) (by kernel_rfl) (by kernel_rfl) (by kernel_rfl) (by kernel_rfl) (by kernel_rfl) (fun _ _ _ h => h) (yi_pure (v0 := .slice (some ⟨B, 0, none⟩) 6 6) (by kernel_rfl) (fun _ => by kernel_rfl) rfl) hSd ?_
  simp only [Act.put, List.setIfInBounds_toArray, List.set_cons_succ, List.set_cons_zero]
  refine takeD 16 (some 40) (.pointer (some ⟨B, 25, none⟩)) (by kernel_rfl) (by kernel_rfl) (by kernel_rfl) (by kernel_rfl) (by kernel_rfl) (fun _ _ _ h => h) (yi_pure (v0 := .pointer (some ⟨B, 25, none⟩)) (by kernel_rfl) (fun _ => by kernel_rfl) rfl) hSd ?_
  simp only [Act.put, List.setIfInBounds_toArray, List.set_cons_succ, List.set_cons_zero]
  refine takeD 17 (some 41) (.agg #[.int .i8 28, .int .i8 36, .int .u8 0, .int .u8 0, .bool false]) (by kernel_rfl) (by kernel_rfl) (by kernel_rfl) (by kernel_rfl) (by kernel_rfl) (fun _ _ _ h => h) (yieldsIf_load_mid (by kernel_rfl) 33 (.tmp 40) (by kernel_rfl) B 25 (by kernel_rfl) [.int .i8 28, .int .i8 36, .int .u8 0, .int .u8 0, .bool false] _ (fun _ h => HA.out _ h 5 (28, 36, 0, 0, false) rfl) Try.underlying33 rfl (Try.info_mv _ rfl)) hSd ?_
  simp only [Act.put, List.setIfInBounds_toArray, List.set_cons_succ, List.set_cons_zero]
  refine wpAnyH_all (rs := [18]) (by kernel_rfl) (by simp) (fun q hq => ?_)
  obtain rfl : q = 18 := by simpa using hq
  clear hq
  refine wpOp_atO rfl rfl ?_
  unfold Oper.wp
  go_simp
  obtain ⟨W2, hW2⟩ : ∃ W2, (W1.alloc (.cells #[.int .i8 28, .int .i8 37, .int .u8 0, .int .u8 0, .bool false, .int .i8 28, .int .i8 35, .int .u8 0, .int .u8 0, .bool false, .int .i8 18, .int .i8 35, .int .u8 0, .int .u8 0, .bool false, .int .i8 3, .int .i8 35, .int .u8 0, .int .u8 0, .bool false, .int .i8 18, .int .i8 12, .int .u8 0, .int .u8 0, .bool false, .int .i8 28, .int .i8 36, .int .u8 0, .int .u8 0, .bool false] 33)).drew = W2 := ⟨_, rfl⟩
  obtain ⟨D, hD⟩ : ∃ D, W1.heap.size = D := ⟨_, rfl⟩
  have hL2 : RowAt W2 D 33 (M.cells O.awS).toArray := by rw [← hW2, ← hD]; exact ⟨(RowAt.new W1 #[.int .i8 28, .int .i8 37, .int .u8 0, .int .u8 0, .bool false, .int .i8 28, .int .i8 35, .int .u8 0, .int .u8 0, .bool false, .int .i8 18, .int .i8 35, .int .u8 0, .int .u8 0, .bool false, .int .i8 3, .int .i8 35, .int .u8 0, .int .u8 0, .bool false, .int .i8 18, .int .i8 12, .int .u8 0, .int .u8 0, .bool false, .int .i8 28, .int .i8 36, .int .u8 0, .int .u8 0, .bool false] 33).heap⟩
  have hg2 : Grows W1 W2 := by rw [← hW2]; exact (Grows.alloc _ _).trans (Grows.drewN _ 1)
  rw [hW2, hD]
  clear hW2 hD
  refine ⟨hg2, ?_⟩
  refine takeD 19 (some 3) (.slice (some ⟨D, 0, none⟩) 6 6) (by kernel_rfl) (by kernel_rfl) (by kernel_rfl) (by kernel_rfl) (by kernel_rfl) (fun _ _ _ h => h) (yi_pure (v0 := .slice (some ⟨D, 0, none⟩) 6 6) (by kernel_rfl) (fun _ => by kernel_rfl) rfl) hg2 ?_
  simp only [Act.put, List.setIfInBounds_toArray, List.set_cons_succ, List.set_cons_zero]
  refine wpAnyH_done (by kernel_rfl) ?_ _
  have hp2 := hp.below (hg1.trans hg2).below
  have hgw := hg.trans (hg1.trans hg2)
  go_wp2_with (first
    | ((with_reducible refine wp_load_box rfl _ rfl ?_); refine ⟨_, _, rfl, (by assumption), ?_⟩)
    | ((with_reducible refine wp_load_box_g rfl _ rfl ?_); refine ⟨_, _, rfl, (by assumption), ?_⟩)
    | fail)
  refine (osort_any O.awP O.awL _ W2 O.awP_ok O.awL_ok (by decide) ((M.reads_row hL).below hg2.below)).mono ?_
  rintro e W3 ⟨v3, l3, rfl, hs3, hown, hb3⟩
  obtain rfl : l3 = O.awS := O.sorted_one O.awP_ok O.awL_ok hs3 O.aw_sorted
  clear hs3
  have hpW := hp2.below hb3
  have hLW := (hL.below hg2.below).below hb3
  have hLS := hL2.below hb3
  have hbW := below_next hgw.below hb3
  obtain ⟨b3, cap3, rfl, -, hbs3, hnc3, hcm3, hcell3⟩ := M.owns_open hown (by decide)
  have HA3 := Lib.hid (fun W (h : Below W3.heap.size W3 W) (k : Nat) (m : Mv) (hm : O.awS[k]? = some m) => (M.at_of hcell3 k m hm).below h)
  have HS3 := Lib.hid (fun W (h : Below W3.heap.size W3 W) (k : Nat) (m : Mv) (hm : O.awS[k]? = some m) => (M.row_at (hLS.below h) k m hm))
  have HL3 := Lib.hid (fun W (h : Below W3.heap.size W3 W) => (M.row_at (hLW.below h) 3 (28, 37, 0, 0, false) rfl))
  have HP3 := Lib.hid (fun W (h : Below W3.heap.size W3 W) => hpW.below h)
  have HB3 := Lib.hid hbW
  unfold maxLen at hcm3
  rw [show O.awL.length = 6 from rfl] at hnc3
  rw [show O.awL.length = 6 from rfl]
  clear hown hcell3 hpW hLW hLS hbW hp2 hgw hL2 hL hg1 hg2 hp hg HA hSd
  go_wp2_with fail
  go_loopw [5] (fun vi wr => ∃ n : Nat, n ≤ 6 ∧ vi = .int .i64 (n : Int) ∧ Below W3.heap.size W3 wr) (fun vi _ => 6 - (intOf vi).toNat)
  case atStart => exact ⟨0, by omega, rfl, Below.refl _ _⟩
  case round =>
    obtain ⟨n, hn, rfl, hbr⟩ := hrel
    by_cases hlt : n < 6
    · obtain ⟨⟨f, g, p, d, c⟩, hx⟩ : ∃ m, O.awS[n]? = some m := ⟨_, List.getElem?_eq_getElem hlt⟩
      obtain ⟨m0, m1, m2, m3, m4⟩ := (HA3.out wr hbr n _ hx).five
      obtain ⟨k0, k1, k2, k3, k4⟩ := (HS3.out wr hbr n _ hx).five
      clear hx
      go_wp2
      go_quiet (fail)
      go_wp2
      exact ⟨⟨n + 1, by omega, by go_num, M.below_drew hbr nq⟩, by simp [intOf]; omega⟩
    · obtain rfl : n = 6 := by omega
      have hp := HP3.out wr hbr
      have hm := HL3.out wr hbr
      have HT := Lib.hid (fun W => O.taken_row O.awP 28 37 0 0 false 4 W O.awP_ok O.aw_taken)
      have HM := Lib.hid (fun W => O.moving_row O.awP 28 37 0 0 false 1 W O.awP_ok O.aw_moving)
      go_wp2_with (first
        | ((with_reducible refine wp_load_box rfl _ rfl ?_); refine ⟨_, _, rfl, hp, ?_⟩)
        | ((with_reducible refine wp_load_box_g rfl _ rfl ?_); refine ⟨_, _, rfl, hp, ?_⟩)
        | fail)
      refine region_grows (by kernel_rfl) (by kernel_rfl) ?_
      repeat (first
        | (go_big_quiet_want; refine quiet_load_grown _ rfl ⟨_, _, rfl, hp, ?_⟩; simp only [Act.put, List.setIfInBounds_toArray, List.set_cons_succ, List.set_cons_zero]; go_big_quiet_on)
        | (go_big_quiet_want; refine quiet_load_at _ rfl ⟨_, _, _, rfl, hm, ?_⟩; simp only [Act.put, List.setIfInBounds_toArray, List.set_cons_succ, List.set_cons_zero]; go_big_quiet_on)
        | go_big_quiet_step (first
          | (go_at_call 14; exact quiet_grows (HT.out _))
          | (go_at_call 15; exact quiet_grows (HM.out _))))
      refine wpQuiet_nil ?_
      intro w5 hg5
      go_wp2
      go_ret
      exact ⟨rfl, below_next (HB3.out.trans (hbr.mono HB3.out.size)) hg5.below⟩

end Go.Proofs.Ytdcmjbebkmicaaa
