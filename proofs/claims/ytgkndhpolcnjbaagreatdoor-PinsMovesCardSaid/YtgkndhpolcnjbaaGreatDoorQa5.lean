/- Several texts in one: AfM. -/

import Derived.Test.YtgkndhpolcnjbaaGreatDoorQi
namespace Go.Proofs.YtgkndhpolcnjbaaGreatDoor
open Go.RowKit Go.Sort
attribute [local go_sem] Oper.semAt_some
theorem A.exec_ix {ev : Operand → Value} {o : Oper} (x y : Operand) {g off n : Nat} {k : IntKind} (ho : o.op = .indexAddr 22 x y) (hx : ev x = .pointer (some ⟨g, off, none⟩)) (hy : ev y = .int k (n : Int)) (w : World) (hn : n < 64) : (execOp ev o).run Tryz.prog w = .ok (.value (.pointer (some ⟨g, off + n, none⟩))) w := by
  unfold execOp
  simp only [ho, hx, hy]
  have e1 : (0 : Int) ≤ (n : Int) := by omega
  have e2 : (n : Int) < 64 := by omega
  simp [go_sem, e1, e2]
theorem A.was_cell {w' : World} {b : Nat} {c : Nat → Int} {m : Mv} {t : Int} (h : ∃ q', A.MvAt w' b q' c m t) (n : Nat) (hn : n < 64) : w'.cell? ⟨b, 89 + n, none⟩ = some (.int .u8 (c (1 + n))) := by
  obtain ⟨q', h⟩ := h
  have := h.atc (1 + n) (by omega) .u8 (pk_board hn)
  rwa [← Nat.add_assoc] at this
theorem A.make_b (c k : Int) (w : World) (h0 : 0 ≤ c) (h1 : c ≤ 255) (h2 : 0 ≤ k) (h3 : k ≤ 255) :
    Calls Tryz.prog 131 #[.int .u8 c, .int .u8 k] w fun e w' => e = .returned (.int .u8 (P.make c k)) ∧ Below w.heap.size w w' :=
  (make_any c k w h0 h1 h2 h3).mono (by rintro e w' ⟨h, rfl⟩; exact ⟨h, Below.refl _ _⟩)
set_option maxRecDepth 100000 in
set_option maxHeartbeats 4000000 in
theorem mmen_tp (c : Nat → Int) (F G : Nat) (p d : Int) (t : Int) (b : Nat) (w : World) (hM : A.MvAt w b c c ((F : Int), (G : Int), p, d, false) t) (hF64 : F < 64) (hG64 : G < 64) (hq : PosOk c) (hd : (d != 0) = false) (hp : (p != 0) = true) (hp0 : 0 ≤ p) (hp1 : p ≤ 255) (tn : Nat) (ht64 : tn < 64) (ht : t = (tn : Int)) :
    Calls Tryz.prog 62 #[.pointer (some ⟨b, 0, none⟩)] w fun e w' => e = .returned (.tuple #[]) ∧ A.Step b (A.men c ((F : Int), (G : Int), p, d, false) t) c ((F : Int), (G : Int), p, d, false) t w w' := by
  have E := Lib.hid (show A.men c ((F : Int), (G : Int), p, d, false) t = (upd (upd (upd (upd c (1 + tn) 0) (1 + F) 0) (1 + G) (c (1 + F))) (1 + G) (P.make (c 78) p)) by
    unfold A.men
    rw [if_neg (show ¬ false = true by simp), if_neg (show ¬ d ≠ 0 by simpa using hd), if_pos (show p ≠ 0 by simpa using hp), if_pos (show 0 ≤ t by omega), ht]
    rfl)
  obtain ⟨x0, x1⟩ := pos_u8 hq (i := 78) (by decide) rfl
  have hmi := Tryz.underlying40
  have iF : (F : Int) < 64 := by omega
  have iG : (G : Int) < 64 := by omega
  have iT : (tn : Int) < 64 := by omega
  have hlt := hM.lt
  have G0 := World.grownBy.refl w (some b)
  have hrm : w.rangeAt b 176 [.int .i8 (F : Int), .int .i8 (G : Int), .int .u8 p, .int .u8 d, .bool false] := hM.rm
  clear hq
  go_enter Tryz.func62, Tryz.ntmps62
  go_upto_region 6 with ((with_reducible refine wp_load_elem rfl 40 _ rfl hmi rfl ?_); refine ⟨b, 176, _, rfl, hrm, A.cell_info ((F : Int), (G : Int), p, d, false), ?_⟩)
  have hMc := hM.alloc (.cells #[.int .i8 (F : Int), .int .i8 (G : Int), .int .u8 p, .int .u8 d, .bool false] 40)
  have hGc : w.grownBy (w.alloc (.cells #[.int .i8 (F : Int), .int .i8 (G : Int), .int .u8 p, .int .u8 d, .bool false] 40)) (some b) := A.below_step G0 ((Below.refl _ _).alloc (Nat.le_refl _) _)
  have hDc := RowAt.new w #[.int .i8 (F : Int), .int .i8 (G : Int), .int .u8 p, .int .u8 d, .bool false] 40
  obtain ⟨D, hD⟩ : ∃ D, w.heap.size = D := ⟨_, rfl⟩
  have hDb : D ≠ b := by omega
  obtain ⟨W1, hW1⟩ : ∃ W1, w.alloc (.cells #[.int .i8 (F : Int), .int .i8 (G : Int), .int .u8 p, .int .u8 d, .bool false] 40) = W1 := ⟨_, rfl⟩
  rw [hD] at hDc ⊢
  rw [hW1] at hMc hGc hDc ⊢
  clear hM hrm G0 hW1
  have d2 : W1.cell? ⟨D, 2, none⟩ = some (.int .u8 p) := hDc.cell 2
  have d3 : W1.cell? ⟨D, 3, none⟩ = some (.int .u8 d) := hDc.cell 3
  have d4 : W1.cell? ⟨D, 4, none⟩ = some (.bool false) := hDc.cell 4
  have d1 : W1.cell? ⟨D, 1, none⟩ = some (.int .i8 (G : Int)) := hDc.cell 1
  have c181 := hMc.att
  rw [ht] at c181
  go_wp2_with fail
  have hbl := hMc.lt
  refine region_tail (n := 9) (by kernel_rfl) (by kernel_rfl) ?_
  simp only [List.take_succ_cons, List.take_zero, List.drop_succ_cons, List.drop_zero]
  repeat (quiet_step (fail))
  refine wpQuiet_nil ?_
  intro W2 hb2
  replace hMc := hMc.below hb2
  replace hDc := hDc.below hb2
  replace hGc := A.below_step hGc hb2
  clear d1 d2 d3 d4 c181 hbl hb2
  go_upto_region 3 with ((with_reducible refine wpl_store_mq rfl _ _ _ rfl ?_); refine ⟨b, 1 + tn, _, c, _, t, 0, .u8, rfl, rfl, (by omega), pk_board ht64, Tryz.size_u8A, hMc, ?_⟩; intro W3 hP3 hM3; replace hMc := hM3; clear hM3)
  replace hDc := hP3.row hDc hDb
  replace hGc := A.put_grown hGc hP3
  clear hP3
  simp only [Act.put]
  refine wp_region_held (S := fun w' => (∃ q', A.MvAt w' b q' c ((F : Int), (G : Int), p, d, false) t) ∧ RowAt w' D 40 #[.int .i8 (F : Int), .int .i8 (G : Int), .int .u8 p, .int .u8 d, .bool false] ∧ w.grownBy w' (some b)) (by kernel_rfl) ?_
  have hMd : A.MvAt W3.drew b _ c ((F : Int), (G : Int), p, d, false) t := ⟨⟨hMc.row.heap⟩⟩
  have hSd : (∃ q', A.MvAt W3.drew b q' c ((F : Int), (G : Int), p, d, false) t) ∧ RowAt W3.drew D 40 #[.int .i8 (F : Int), .int .i8 (G : Int), .int .u8 p, .int .u8 d, .bool false] ∧ w.grownBy W3.drew (some b) := ⟨⟨_, hMd⟩, ⟨hDc.heap⟩, A.below_step hGc (M.below_drew (Below.refl _ _) 1)⟩
  clear hMc hDc hGc
  refine takeD 0 (some 24) (.pointer (some ⟨b, 0, none⟩)) (by kernel_rfl) (by kernel_rfl) (by kernel_rfl) (by kernel_rfl) (by kernel_rfl) (fun _ _ _ h => h) (yi_pure (v0 := .pointer (some ⟨b, 0, none⟩)) (by kernel_rfl) (fun _ => by kernel_rfl) rfl) hSd ?_
  simp only [Act.put, List.setIfInBounds_toArray, List.set_cons_succ, List.set_cons_zero]
  refine takeD 1 (some 25) (.pointer (some ⟨D, 0, none⟩)) (by kernel_rfl) (by kernel_rfl) (by kernel_rfl) (by kernel_rfl) (by kernel_rfl) (fun _ _ _ h => h) (yi_pure (v0 := .pointer (some ⟨D, 0, none⟩)) (by kernel_rfl) (fun _ => by kernel_rfl) rfl) hSd ?_
  simp only [Act.put, List.setIfInBounds_toArray, List.set_cons_succ, List.set_cons_zero]
  refine takeD 2 (some 26) (.int .i8 (F : Int)) (by kernel_rfl) (by kernel_rfl) (by kernel_rfl) (by kernel_rfl) (by kernel_rfl) (fun _ _ _ h => h) (yi_load (by kernel_rfl) 26 (.tmp 25) (by kernel_rfl) ⟨D, 0, none⟩ (by kernel_rfl) (fun w9 => load_i8 _ _ w9) (fun w9 h9 => (h9.2.1.cell 0))) hSd ?_
  simp only [Act.put, List.setIfInBounds_toArray, List.set_cons_succ, List.set_cons_zero]
  refine takeD 3 (some 27) (.pointer (some ⟨b, 0, none⟩)) (by kernel_rfl) (by kernel_rfl) (by kernel_rfl) (by kernel_rfl) (by kernel_rfl) (fun _ _ _ h => h) (yi_pure (v0 := .pointer (some ⟨b, 0, none⟩)) (by kernel_rfl) (fun _ => by kernel_rfl) rfl) hSd ?_
  simp only [Act.put, List.setIfInBounds_toArray, List.set_cons_succ, List.set_cons_zero]
  refine takeD 4 (some 28) (.pointer (some ⟨D, 1, none⟩)) (by kernel_rfl) (by kernel_rfl) (by kernel_rfl) (by kernel_rfl) (by kernel_rfl) (fun _ _ _ h => h) (yi_pure (v0 := .pointer (some ⟨D, 1, none⟩)) (by kernel_rfl) (fun _ => by kernel_rfl) rfl) hSd ?_
  simp only [Act.put, List.setIfInBounds_toArray, List.set_cons_succ, List.set_cons_zero]
  refine takeD 5 (some 29) (.int .i8 (G : Int)) (by kernel_rfl) (by kernel_rfl) (by kernel_rfl) (by kernel_rfl) (by kernel_rfl) (fun _ _ _ h => h) (yi_load (by kernel_rfl) 26 (.tmp 28) (by kernel_rfl) ⟨D, 1, none⟩ (by kernel_rfl) (fun w9 => load_i8 _ _ w9) (fun w9 h9 => (h9.2.1.cell 1))) hSd ?_
  simp only [Act.put, List.setIfInBounds_toArray, List.set_cons_succ, List.set_cons_zero]
  refine takeD 6 (some 30) (.pointer (some ⟨b, 0, none⟩)) (by kernel_rfl) (by kernel_rfl) (by kernel_rfl) (by kernel_rfl) (by kernel_rfl) (fun _ _ _ h => h) (yi_pure (v0 := .pointer (some ⟨b, 0, none⟩)) (by kernel_rfl) (fun _ => by kernel_rfl) rfl) hSd ?_
  simp only [Act.put, List.setIfInBounds_toArray, List.set_cons_succ, List.set_cons_zero]
  refine takeD 7 (some 31) (.pointer (some ⟨D, 0, none⟩)) (by kernel_rfl) (by kernel_rfl) (by kernel_rfl) (by kernel_rfl) (by kernel_rfl) (fun _ _ _ h => h) (yi_pure (v0 := .pointer (some ⟨D, 0, none⟩)) (by kernel_rfl) (fun _ => by kernel_rfl) rfl) hSd ?_
  simp only [Act.put, List.setIfInBounds_toArray, List.set_cons_succ, List.set_cons_zero]
  refine takeD 8 (some 32) (.int .i8 (F : Int)) (by kernel_rfl) (by kernel_rfl) (by kernel_rfl) (by kernel_rfl) (by kernel_rfl) (fun _ _ _ h => h) (yi_load (by kernel_rfl) 26 (.tmp 31) (by kernel_rfl) ⟨D, 0, none⟩ (by kernel_rfl) (fun w9 => load_i8 _ _ w9) (fun w9 h9 => (h9.2.1.cell 0))) hSd ?_
  simp only [Act.put, List.setIfInBounds_toArray, List.set_cons_succ, List.set_cons_zero]
  refine takeD 9 (some 33) (.pointer (some ⟨b, 0, none⟩)) (by kernel_rfl) (by kernel_rfl) (by kernel_rfl) (by kernel_rfl) (by kernel_rfl) (fun _ _ _ h => h) (yi_pure (v0 := .pointer (some ⟨b, 0, none⟩)) (by kernel_rfl) (fun _ => by kernel_rfl) rfl) hSd ?_
  simp only [Act.put, List.setIfInBounds_toArray, List.set_cons_succ, List.set_cons_zero]
  refine takeD 10 (some 34) (.pointer (some ⟨b, 88, none⟩)) (by kernel_rfl) (by kernel_rfl) (by kernel_rfl) (by kernel_rfl) (by kernel_rfl) (fun _ _ _ h => h) (yi_pure (v0 := .pointer (some ⟨b, 88, none⟩)) (by kernel_rfl) (fun _ => by kernel_rfl) rfl) hSd ?_
  simp only [Act.put, List.setIfInBounds_toArray, List.set_cons_succ, List.set_cons_zero]
  refine takeD 11 (some 35) (.pointer (some ⟨b, 89, none⟩)) (by kernel_rfl) (by kernel_rfl) (by kernel_rfl) (by kernel_rfl) (by kernel_rfl) (fun _ _ _ h => h) (yi_pure (v0 := .pointer (some ⟨b, 89, none⟩)) (by kernel_rfl) (fun _ => by kernel_rfl) rfl) hSd ?_
  simp only [Act.put, List.setIfInBounds_toArray, List.set_cons_succ, List.set_cons_zero]
  refine takeD 12 (some 36) (.pointer (some ⟨b, 89 + F, none⟩)) (by kernel_rfl) (by kernel_rfl) (by kernel_rfl) (by kernel_rfl) (by kernel_rfl) (fun _ _ _ h => h) (yi_pure (v0 := .pointer (some ⟨b, 89 + F, none⟩)) (by kernel_rfl) (fun w9 => A.exec_ix (.tmp 35) (.tmp 32) (n := F) (off := 89) (k := .i8) (by kernel_rfl) (by kernel_rfl) (by kernel_rfl) w9 hF64) rfl) hSd ?_
  simp only [Act.put, List.setIfInBounds_toArray, List.set_cons_succ, List.set_cons_zero]
  refine takeD 13 (some 37) (.int .u8 (c (1 + F))) (by kernel_rfl) (by kernel_rfl) (by kernel_rfl) (by kernel_rfl) (by kernel_rfl) (fun _ _ _ h => h) (yi_load (by kernel_rfl) 5 (.tmp 36) (by kernel_rfl) ⟨b, 89 + F, none⟩ (by kernel_rfl) (fun w9 => load_u8 _ _ w9) (fun w9 h9 => (A.was_cell h9.1 F hF64))) hSd ?_
  simp only [Act.put, List.setIfInBounds_toArray, List.set_cons_succ, List.set_cons_zero]
  refine takeD 14 (some 38) (.pointer (some ⟨b, 0, none⟩)) (by kernel_rfl) (by kernel_rfl) (by kernel_rfl) (by kernel_rfl) (by kernel_rfl) (fun _ _ _ h => h) (yi_pure (v0 := .pointer (some ⟨b, 0, none⟩)) (by kernel_rfl) (fun _ => by kernel_rfl) rfl) hSd ?_
  simp only [Act.put, List.setIfInBounds_toArray, List.set_cons_succ, List.set_cons_zero]
  refine takeD 15 (some 39) (.pointer (some ⟨b, 0, none⟩)) (by kernel_rfl) (by kernel_rfl) (by kernel_rfl) (by kernel_rfl) (by kernel_rfl) (fun _ _ _ h => h) (yi_pure (v0 := .pointer (some ⟨b, 0, none⟩)) (by kernel_rfl) (fun _ => by kernel_rfl) rfl) hSd ?_
  simp only [Act.put, List.setIfInBounds_toArray, List.set_cons_succ, List.set_cons_zero]
  refine takeD 16 (some 40) (.pointer (some ⟨b, 1, none⟩)) (by kernel_rfl) (by kernel_rfl) (by kernel_rfl) (by kernel_rfl) (by kernel_rfl) (fun _ _ _ h => h) (yi_pure (v0 := .pointer (some ⟨b, 1, none⟩)) (by kernel_rfl) (fun _ => by kernel_rfl) rfl) hSd ?_
  simp only [Act.put, List.setIfInBounds_toArray, List.set_cons_succ, List.set_cons_zero]
  refine takeD 17 (some 41) (.pointer (some ⟨b, 1 + F, none⟩)) (by kernel_rfl) (by kernel_rfl) (by kernel_rfl) (by kernel_rfl) (by kernel_rfl) (fun _ _ _ h => h) (yi_pure (v0 := .pointer (some ⟨b, 1 + F, none⟩)) (by kernel_rfl) (fun w9 => A.exec_ix (.tmp 40) (.tmp 26) (n := F) (off := 1) (k := .i8) (by kernel_rfl) (by kernel_rfl) (by kernel_rfl) w9 hF64) rfl) hSd ?_
  simp only [Act.put, List.setIfInBounds_toArray, List.set_cons_succ, List.set_cons_zero]
  refine takeD 19 (some 42) (.pointer (some ⟨b, 0, none⟩)) (by kernel_rfl) (by kernel_rfl) (by kernel_rfl) (by kernel_rfl) (by kernel_rfl) (fun _ _ _ h => h) (yi_pure (v0 := .pointer (some ⟨b, 0, none⟩)) (by kernel_rfl) (fun _ => by kernel_rfl) rfl) hSd ?_
  simp only [Act.put, List.setIfInBounds_toArray, List.set_cons_succ, List.set_cons_zero]
  refine takeD 20 (some 43) (.pointer (some ⟨b, 0, none⟩)) (by kernel_rfl) (by kernel_rfl) (by kernel_rfl) (by kernel_rfl) (by kernel_rfl) (fun _ _ _ h => h) (yi_pure (v0 := .pointer (some ⟨b, 0, none⟩)) (by kernel_rfl) (fun _ => by kernel_rfl) rfl) hSd ?_
  simp only [Act.put, List.setIfInBounds_toArray, List.set_cons_succ, List.set_cons_zero]
  refine takeD 21 (some 44) (.pointer (some ⟨b, 1, none⟩)) (by kernel_rfl) (by kernel_rfl) (by kernel_rfl) (by kernel_rfl) (by kernel_rfl) (fun _ _ _ h => h) (yi_pure (v0 := .pointer (some ⟨b, 1, none⟩)) (by kernel_rfl) (fun _ => by kernel_rfl) rfl) hSd ?_
  simp only [Act.put, List.setIfInBounds_toArray, List.set_cons_succ, List.set_cons_zero]
  refine takeOne 18 (by kernel_rfl) (by kernel_rfl) (by kernel_rfl) ?_
  refine wp_store_mq 5 (.tmp 41) (.const (.int .u8 0)) (by kernel_rfl) (b := b) (i := 1 + F) (n := 0) (by kernel_rfl) (by kernel_rfl) (by omega) (pk_board hF64) Tryz.size_u8A hMd (fun u1 hPu1 hMu1 => ?_)
  have hSu1 : (∃ q', A.MvAt u1 b q' c ((F : Int), (G : Int), p, d, false) t) ∧ RowAt u1 D 40 #[.int .i8 (F : Int), .int .i8 (G : Int), .int .u8 p, .int .u8 d, .bool false] ∧ w.grownBy u1 (some b) := ⟨⟨_, hMu1⟩, hPu1.row hSd.2.1 hDb, A.put_grown hSd.2.2 hPu1⟩
  refine ⟨hSu1, ?_⟩
  clear hPu1
  simp only [Act.put]
  refine takeD 22 (some 45) (.pointer (some ⟨b, 1 + G, none⟩)) (by kernel_rfl) (by kernel_rfl) (by kernel_rfl) (by kernel_rfl) (by kernel_rfl) (fun _ _ _ h => h) (yi_pure (v0 := .pointer (some ⟨b, 1 + G, none⟩)) (by kernel_rfl) (fun w9 => A.exec_ix (.tmp 44) (.tmp 29) (n := G) (off := 1) (k := .i8) (by kernel_rfl) (by kernel_rfl) (by kernel_rfl) w9 hG64) rfl) hSu1 ?_
  simp only [Act.put, List.setIfInBounds_toArray]
  refine takeOne 23 (by kernel_rfl) (by kernel_rfl) (by kernel_rfl) ?_
  refine wp_store_mq 5 (.tmp 45) (.tmp 37) (by kernel_rfl) (b := b) (i := 1 + G) (n := (c (1 + F))) (by kernel_rfl) (by kernel_rfl) (by omega) (pk_board hG64) Tryz.size_u8A hMu1 (fun u2 hPu2 hMu2 => ?_)
  have hSu2 : (∃ q', A.MvAt u2 b q' c ((F : Int), (G : Int), p, d, false) t) ∧ RowAt u2 D 40 #[.int .i8 (F : Int), .int .i8 (G : Int), .int .u8 p, .int .u8 d, .bool false] ∧ w.grownBy u2 (some b) := ⟨⟨_, hMu2⟩, hPu2.row hSu1.2.1 hDb, A.put_grown hSu1.2.2 hPu2⟩
  refine ⟨hSu2, ?_⟩
  clear hPu2
  simp only [Act.put]
  refine wpAnyH_done (by kernel_rfl) ?_ _
  have hMc := hMu2
  have hDc := hSu2.2.1
  have hGc := hSu2.2.2
  clear hSu1 hSu2 hMu1 hMu2 hSd hMd
  have d2 : u2.cell? ⟨D, 2, none⟩ = some (.int .u8 p) := hDc.cell 2
  have d3 : u2.cell? ⟨D, 3, none⟩ = some (.int .u8 d) := hDc.cell 3
  have d4 : u2.cell? ⟨D, 4, none⟩ = some (.bool false) := hDc.cell 4
  have d1 : u2.cell? ⟨D, 1, none⟩ = some (.int .i8 (G : Int)) := hDc.cell 1
  have h78 : u2.cell? ⟨b, 78, none⟩ = some (.int .u8 (c 78)) := by
    have := hMc.atq 78 (by decide) .u8 rfl
    rwa [upd_other _ _ _ _ (by omega), upd_other _ _ _ _ (by omega), upd_other _ _ _ _ (by omega)] at this
  go_wp2_with fail
  have hbl := hMc.lt
  have hbD := hDc.lt
  refine region_tail (n := 15) (by kernel_rfl) (by kernel_rfl) ?_
  simp only [List.take_succ_cons, List.take_zero, List.drop_succ_cons, List.drop_zero]
  repeat (quiet_step ((go_at_call 131; exact quiet_below (A.make_b _ _ _ x0 x1 hp0 hp1))))
  refine wpQuiet_nil ?_
  intro W4 hb4
  replace hMc := hMc.below hb4
  replace hGc := A.below_step hGc hb4
  clear d1 d2 d3 d4 h78 hbl hb4 hbD
  go_wp2_with ((with_reducible refine wpl_store_mq rfl _ _ _ rfl ?_); refine ⟨b, 1 + G, _, c, _, t, _, .u8, rfl, rfl, (by omega), pk_board hG64, Tryz.size_u8A, hMc, ?_⟩; intro W5 hP5 hM5; replace hMc := hM5; clear hM5)
  replace hGc := A.put_grown hGc hP5
  first | refine bodyPost_end (results_none rfl _ _ _) rfl ?_ | refine bodyPost_ret (results_none rfl _ _ _) rfl ?_
  exact ⟨rfl, ⟨by rw [E.out]; exact hMc, hGc⟩⟩
set_option maxRecDepth 100000 in
set_option maxHeartbeats 4000000 in
theorem mmen_tq (c : Nat → Int) (F G : Nat) (p d : Int) (t : Int) (b : Nat) (w : World) (hM : A.MvAt w b c c ((F : Int), (G : Int), p, d, false) t) (hF64 : F < 64) (hG64 : G < 64) (hq : PosOk c) (hd : (d != 0) = false) (hp : (p != 0) = false) (_hp0 : 0 ≤ p) (_hp1 : p ≤ 255) (tn : Nat) (ht64 : tn < 64) (ht : t = (tn : Int)) :
    Calls Tryz.prog 62 #[.pointer (some ⟨b, 0, none⟩)] w fun e w' => e = .returned (.tuple #[]) ∧ A.Step b (A.men c ((F : Int), (G : Int), p, d, false) t) c ((F : Int), (G : Int), p, d, false) t w w' := by
  have E := Lib.hid (show A.men c ((F : Int), (G : Int), p, d, false) t = (upd (upd (upd c (1 + tn) 0) (1 + F) 0) (1 + G) (c (1 + F))) by
    unfold A.men
    rw [if_neg (show ¬ false = true by simp), if_neg (show ¬ d ≠ 0 by simpa using hd), if_neg (show ¬ p ≠ 0 by simpa using hp), if_pos (show 0 ≤ t by omega), ht]
    rfl)
  obtain ⟨x0, x1⟩ := pos_u8 hq (i := 78) (by decide) rfl
  have hmi := Tryz.underlying40
  have iF : (F : Int) < 64 := by omega
  have iG : (G : Int) < 64 := by omega
  have iT : (tn : Int) < 64 := by omega
  have hlt := hM.lt
  have G0 := World.grownBy.refl w (some b)
  have hrm : w.rangeAt b 176 [.int .i8 (F : Int), .int .i8 (G : Int), .int .u8 p, .int .u8 d, .bool false] := hM.rm
  clear hq
  go_enter Tryz.func62, Tryz.ntmps62
  go_upto_region 6 with ((with_reducible refine wp_load_elem rfl 40 _ rfl hmi rfl ?_); refine ⟨b, 176, _, rfl, hrm, A.cell_info ((F : Int), (G : Int), p, d, false), ?_⟩)
  have hMc := hM.alloc (.cells #[.int .i8 (F : Int), .int .i8 (G : Int), .int .u8 p, .int .u8 d, .bool false] 40)
  have hGc : w.grownBy (w.alloc (.cells #[.int .i8 (F : Int), .int .i8 (G : Int), .int .u8 p, .int .u8 d, .bool false] 40)) (some b) := A.below_step G0 ((Below.refl _ _).alloc (Nat.le_refl _) _)
  have hDc := RowAt.new w #[.int .i8 (F : Int), .int .i8 (G : Int), .int .u8 p, .int .u8 d, .bool false] 40
  obtain ⟨D, hD⟩ : ∃ D, w.heap.size = D := ⟨_, rfl⟩
  have hDb : D ≠ b := by omega
  obtain ⟨W1, hW1⟩ : ∃ W1, w.alloc (.cells #[.int .i8 (F : Int), .int .i8 (G : Int), .int .u8 p, .int .u8 d, .bool false] 40) = W1 := ⟨_, rfl⟩
  rw [hD] at hDc ⊢
  rw [hW1] at hMc hGc hDc ⊢
  clear hM hrm G0 hW1
  have d2 : W1.cell? ⟨D, 2, none⟩ = some (.int .u8 p) := hDc.cell 2
  have d3 : W1.cell? ⟨D, 3, none⟩ = some (.int .u8 d) := hDc.cell 3
  have d4 : W1.cell? ⟨D, 4, none⟩ = some (.bool false) := hDc.cell 4
  have d1 : W1.cell? ⟨D, 1, none⟩ = some (.int .i8 (G : Int)) := hDc.cell 1
  have c181 := hMc.att
  rw [ht] at c181
  go_wp2_with fail
  have hbl := hMc.lt
  refine region_tail (n := 9) (by kernel_rfl) (by kernel_rfl) ?_
  simp only [List.take_succ_cons, List.take_zero, List.drop_succ_cons, List.drop_zero]
  repeat (quiet_step (fail))
  refine wpQuiet_nil ?_
  intro W2 hb2
  replace hMc := hMc.below hb2
  replace hDc := hDc.below hb2
  replace hGc := A.below_step hGc hb2
  clear d1 d2 d3 d4 c181 hbl hb2
  go_upto_region 3 with ((with_reducible refine wpl_store_mq rfl _ _ _ rfl ?_); refine ⟨b, 1 + tn, _, c, _, t, 0, .u8, rfl, rfl, (by omega), pk_board ht64, Tryz.size_u8A, hMc, ?_⟩; intro W3 hP3 hM3; replace hMc := hM3; clear hM3)
  replace hDc := hP3.row hDc hDb
  replace hGc := A.put_grown hGc hP3
  clear hP3
  simp only [Act.put]
  refine wp_region_held (S := fun w' => (∃ q', A.MvAt w' b q' c ((F : Int), (G : Int), p, d, false) t) ∧ RowAt w' D 40 #[.int .i8 (F : Int), .int .i8 (G : Int), .int .u8 p, .int .u8 d, .bool false] ∧ w.grownBy w' (some b)) (by kernel_rfl) ?_
  have hMd : A.MvAt W3.drew b _ c ((F : Int), (G : Int), p, d, false) t := ⟨⟨hMc.row.heap⟩⟩
  have hSd : (∃ q', A.MvAt W3.drew b q' c ((F : Int), (G : Int), p, d, false) t) ∧ RowAt W3.drew D 40 #[.int .i8 (F : Int), .int .i8 (G : Int), .int .u8 p, .int .u8 d, .bool false] ∧ w.grownBy W3.drew (some b) := ⟨⟨_, hMd⟩, ⟨hDc.heap⟩, A.below_step hGc (M.below_drew (Below.refl _ _) 1)⟩
  clear hMc hDc hGc
  refine takeD 0 (some 24) (.pointer (some ⟨b, 0, none⟩)) (by kernel_rfl) (by kernel_rfl) (by kernel_rfl) (by kernel_rfl) (by kernel_rfl) (fun _ _ _ h => h) (yi_pure (v0 := .pointer (some ⟨b, 0, none⟩)) (by kernel_rfl) (fun _ => by kernel_rfl) rfl) hSd ?_
  simp only [Act.put, List.setIfInBounds_toArray, List.set_cons_succ, List.set_cons_zero]
  refine takeD 1 (some 25) (.pointer (some ⟨D, 0, none⟩)) (by kernel_rfl) (by kernel_rfl) (by kernel_rfl) (by kernel_rfl) (by kernel_rfl) (fun _ _ _ h => h) (yi_pure (v0 := .pointer (some ⟨D, 0, none⟩)) (by kernel_rfl) (fun _ => by kernel_rfl) rfl) hSd ?_
  simp only [Act.put, List.setIfInBounds_toArray, List.set_cons_succ, List.set_cons_zero]
  refine takeD 2 (some 26) (.int .i8 (F : Int)) (by kernel_rfl) (by kernel_rfl) (by kernel_rfl) (by kernel_rfl) (by kernel_rfl) (fun _ _ _ h => h) (yi_load (by kernel_rfl) 26 (.tmp 25) (by kernel_rfl) ⟨D, 0, none⟩ (by kernel_rfl) (fun w9 => load_i8 _ _ w9) (fun w9 h9 => (h9.2.1.cell 0))) hSd ?_
  simp only [Act.put, List.setIfInBounds_toArray, List.set_cons_succ, List.set_cons_zero]
  refine takeD 3 (some 27) (.pointer (some ⟨b, 0, none⟩)) (by kernel_rfl) (by kernel_rfl) (by kernel_rfl) (by kernel_rfl) (by kernel_rfl) (fun _ _ _ h => h) (yi_pure (v0 := .pointer (some ⟨b, 0, none⟩)) (by kernel_rfl) (fun _ => by kernel_rfl) rfl) hSd ?_
  simp only [Act.put, List.setIfInBounds_toArray, List.set_cons_succ, List.set_cons_zero]
  refine takeD 4 (some 28) (.pointer (some ⟨D, 1, none⟩)) (by kernel_rfl) (by kernel_rfl) (by kernel_rfl) (by kernel_rfl) (by kernel_rfl) (fun _ _ _ h => h) (yi_pure (v0 := .pointer (some ⟨D, 1, none⟩)) (by kernel_rfl) (fun _ => by kernel_rfl) rfl) hSd ?_
  simp only [Act.put, List.setIfInBounds_toArray, List.set_cons_succ, List.set_cons_zero]
  refine takeD 5 (some 29) (.int .i8 (G : Int)) (by kernel_rfl) (by kernel_rfl) (by kernel_rfl) (by kernel_rfl) (by kernel_rfl) (fun _ _ _ h => h) (yi_load (by kernel_rfl) 26 (.tmp 28) (by kernel_rfl) ⟨D, 1, none⟩ (by kernel_rfl) (fun w9 => load_i8 _ _ w9) (fun w9 h9 => (h9.2.1.cell 1))) hSd ?_
  simp only [Act.put, List.setIfInBounds_toArray, List.set_cons_succ, List.set_cons_zero]
  refine takeD 6 (some 30) (.pointer (some ⟨b, 0, none⟩)) (by kernel_rfl) (by kernel_rfl) (by kernel_rfl) (by kernel_rfl) (by kernel_rfl) (fun _ _ _ h => h) (yi_pure (v0 := .pointer (some ⟨b, 0, none⟩)) (by kernel_rfl) (fun _ => by kernel_rfl) rfl) hSd ?_
  simp only [Act.put, List.setIfInBounds_toArray, List.set_cons_succ, List.set_cons_zero]
  refine takeD 7 (some 31) (.pointer (some ⟨D, 0, none⟩)) (by kernel_rfl) (by kernel_rfl) (by kernel_rfl) (by kernel_rfl) (by kernel_rfl) (fun _ _ _ h => h) (yi_pure (v0 := .pointer (some ⟨D, 0, none⟩)) (by kernel_rfl) (fun _ => by kernel_rfl) rfl) hSd ?_
  simp only [Act.put, List.setIfInBounds_toArray, List.set_cons_succ, List.set_cons_zero]
  refine takeD 8 (some 32) (.int .i8 (F : Int)) (by kernel_rfl) (by kernel_rfl) (by kernel_rfl) (by kernel_rfl) (by kernel_rfl) (fun _ _ _ h => h) (yi_load (by kernel_rfl) 26 (.tmp 31) (by kernel_rfl) ⟨D, 0, none⟩ (by kernel_rfl) (fun w9 => load_i8 _ _ w9) (fun w9 h9 => (h9.2.1.cell 0))) hSd ?_
  simp only [Act.put, List.setIfInBounds_toArray, List.set_cons_succ, List.set_cons_zero]
  refine takeD 9 (some 33) (.pointer (some ⟨b, 0, none⟩)) (by kernel_rfl) (by kernel_rfl) (by kernel_rfl) (by kernel_rfl) (by kernel_rfl) (fun _ _ _ h => h) (yi_pure (v0 := .pointer (some ⟨b, 0, none⟩)) (by kernel_rfl) (fun _ => by kernel_rfl) rfl) hSd ?_
  simp only [Act.put, List.setIfInBounds_toArray, List.set_cons_succ, List.set_cons_zero]
  refine takeD 10 (some 34) (.pointer (some ⟨b, 88, none⟩)) (by kernel_rfl) (by kernel_rfl) (by kernel_rfl) (by kernel_rfl) (by kernel_rfl) (fun _ _ _ h => h) (yi_pure (v0 := .pointer (some ⟨b, 88, none⟩)) (by kernel_rfl) (fun _ => by kernel_rfl) rfl) hSd ?_
  simp only [Act.put, List.setIfInBounds_toArray, List.set_cons_succ, List.set_cons_zero]
  refine takeD 11 (some 35) (.pointer (some ⟨b, 89, none⟩)) (by kernel_rfl) (by kernel_rfl) (by kernel_rfl) (by kernel_rfl) (by kernel_rfl) (fun _ _ _ h => h) (yi_pure (v0 := .pointer (some ⟨b, 89, none⟩)) (by kernel_rfl) (fun _ => by kernel_rfl) rfl) hSd ?_
  simp only [Act.put, List.setIfInBounds_toArray, List.set_cons_succ, List.set_cons_zero]
  refine takeD 12 (some 36) (.pointer (some ⟨b, 89 + F, none⟩)) (by kernel_rfl) (by kernel_rfl) (by kernel_rfl) (by kernel_rfl) (by kernel_rfl) (fun _ _ _ h => h) (yi_pure (v0 := .pointer (some ⟨b, 89 + F, none⟩)) (by kernel_rfl) (fun w9 => A.exec_ix (.tmp 35) (.tmp 32) (n := F) (off := 89) (k := .i8) (by kernel_rfl) (by kernel_rfl) (by kernel_rfl) w9 hF64) rfl) hSd ?_
  simp only [Act.put, List.setIfInBounds_toArray, List.set_cons_succ, List.set_cons_zero]
  refine takeD 13 (some 37) (.int .u8 (c (1 + F))) (by kernel_rfl) (by kernel_rfl) (by kernel_rfl) (by kernel_rfl) (by kernel_rfl) (fun _ _ _ h => h) (yi_load (by kernel_rfl) 5 (.tmp 36) (by kernel_rfl) ⟨b, 89 + F, none⟩ (by kernel_rfl) (fun w9 => load_u8 _ _ w9) (fun w9 h9 => (A.was_cell h9.1 F hF64))) hSd ?_
  simp only [Act.put, List.setIfInBounds_toArray, List.set_cons_succ, List.set_cons_zero]
  refine takeD 14 (some 38) (.pointer (some ⟨b, 0, none⟩)) (by kernel_rfl) (by kernel_rfl) (by kernel_rfl) (by kernel_rfl) (by kernel_rfl) (fun _ _ _ h => h) (yi_pure (v0 := .pointer (some ⟨b, 0, none⟩)) (by kernel_rfl) (fun _ => by kernel_rfl) rfl) hSd ?_
  simp only [Act.put, List.setIfInBounds_toArray, List.set_cons_succ, List.set_cons_zero]
  refine takeD 15 (some 39) (.pointer (some ⟨b, 0, none⟩)) (by kernel_rfl) (by kernel_rfl) (by kernel_rfl) (by kernel_rfl) (by kernel_rfl) (fun _ _ _ h => h) (yi_pure (v0 := .pointer (some ⟨b, 0, none⟩)) (by kernel_rfl) (fun _ => by kernel_rfl) rfl) hSd ?_
  simp only [Act.put, List.setIfInBounds_toArray, List.set_cons_succ, List.set_cons_zero]
  refine takeD 16 (some 40) (.pointer (some ⟨b, 1, none⟩)) (by kernel_rfl) (by kernel_rfl) (by kernel_rfl) (by kernel_rfl) (by kernel_rfl) (fun _ _ _ h => h) (yi_pure (v0 := .pointer (some ⟨b, 1, none⟩)) (by kernel_rfl) (fun _ => by kernel_rfl) rfl) hSd ?_
  simp only [Act.put, List.setIfInBounds_toArray, List.set_cons_succ, List.set_cons_zero]
  refine takeD 17 (some 41) (.pointer (some ⟨b, 1 + F, none⟩)) (by kernel_rfl) (by kernel_rfl) (by kernel_rfl) (by kernel_rfl) (by kernel_rfl) (fun _ _ _ h => h) (yi_pure (v0 := .pointer (some ⟨b, 1 + F, none⟩)) (by kernel_rfl) (fun w9 => A.exec_ix (.tmp 40) (.tmp 26) (n := F) (off := 1) (k := .i8) (by kernel_rfl) (by kernel_rfl) (by kernel_rfl) w9 hF64) rfl) hSd ?_
  simp only [Act.put, List.setIfInBounds_toArray, List.set_cons_succ, List.set_cons_zero]
  refine takeD 19 (some 42) (.pointer (some ⟨b, 0, none⟩)) (by kernel_rfl) (by kernel_rfl) (by kernel_rfl) (by kernel_rfl) (by kernel_rfl) (fun _ _ _ h => h) (yi_pure (v0 := .pointer (some ⟨b, 0, none⟩)) (by kernel_rfl) (fun _ => by kernel_rfl) rfl) hSd ?_
  simp only [Act.put, List.setIfInBounds_toArray, List.set_cons_succ, List.set_cons_zero]
  refine takeD 20 (some 43) (.pointer (some ⟨b, 0, none⟩)) (by kernel_rfl) (by kernel_rfl) (by kernel_rfl) (by kernel_rfl) (by kernel_rfl) (fun _ _ _ h => h) (yi_pure (v0 := .pointer (some ⟨b, 0, none⟩)) (by kernel_rfl) (fun _ => by kernel_rfl) rfl) hSd ?_
  simp only [Act.put, List.setIfInBounds_toArray, List.set_cons_succ, List.set_cons_zero]
  refine takeD 21 (some 44) (.pointer (some ⟨b, 1, none⟩)) (by kernel_rfl) (by kernel_rfl) (by kernel_rfl) (by kernel_rfl) (by kernel_rfl) (fun _ _ _ h => h) (yi_pure (v0 := .pointer (some ⟨b, 1, none⟩)) (by kernel_rfl) (fun _ => by kernel_rfl) rfl) hSd ?_
  simp only [Act.put, List.setIfInBounds_toArray, List.set_cons_succ, List.set_cons_zero]
  refine takeOne 18 (by kernel_rfl) (by kernel_rfl) (by kernel_rfl) ?_
  refine wp_store_mq 5 (.tmp 41) (.const (.int .u8 0)) (by kernel_rfl) (b := b) (i := 1 + F) (n := 0) (by kernel_rfl) (by kernel_rfl) (by omega) (pk_board hF64) Tryz.size_u8A hMd (fun u1 hPu1 hMu1 => ?_)
  have hSu1 : (∃ q', A.MvAt u1 b q' c ((F : Int), (G : Int), p, d, false) t) ∧ RowAt u1 D 40 #[.int .i8 (F : Int), .int .i8 (G : Int), .int .u8 p, .int .u8 d, .bool false] ∧ w.grownBy u1 (some b) := ⟨⟨_, hMu1⟩, hPu1.row hSd.2.1 hDb, A.put_grown hSd.2.2 hPu1⟩
  refine ⟨hSu1, ?_⟩
  clear hPu1
  simp only [Act.put]
  refine takeD 22 (some 45) (.pointer (some ⟨b, 1 + G, none⟩)) (by kernel_rfl) (by kernel_rfl) (by kernel_rfl) (by kernel_rfl) (by kernel_rfl) (fun _ _ _ h => h) (yi_pure (v0 := .pointer (some ⟨b, 1 + G, none⟩)) (by kernel_rfl) (fun w9 => A.exec_ix (.tmp 44) (.tmp 29) (n := G) (off := 1) (k := .i8) (by kernel_rfl) (by kernel_rfl) (by kernel_rfl) w9 hG64) rfl) hSu1 ?_
  simp only [Act.put, List.setIfInBounds_toArray]
  refine takeOne 23 (by kernel_rfl) (by kernel_rfl) (by kernel_rfl) ?_
  refine wp_store_mq 5 (.tmp 45) (.tmp 37) (by kernel_rfl) (b := b) (i := 1 + G) (n := (c (1 + F))) (by kernel_rfl) (by kernel_rfl) (by omega) (pk_board hG64) Tryz.size_u8A hMu1 (fun u2 hPu2 hMu2 => ?_)
  have hSu2 : (∃ q', A.MvAt u2 b q' c ((F : Int), (G : Int), p, d, false) t) ∧ RowAt u2 D 40 #[.int .i8 (F : Int), .int .i8 (G : Int), .int .u8 p, .int .u8 d, .bool false] ∧ w.grownBy u2 (some b) := ⟨⟨_, hMu2⟩, hPu2.row hSu1.2.1 hDb, A.put_grown hSu1.2.2 hPu2⟩
  refine ⟨hSu2, ?_⟩
  clear hPu2
  simp only [Act.put]
  refine wpAnyH_done (by kernel_rfl) ?_ _
  have hMc := hMu2
  have hDc := hSu2.2.1
  have hGc := hSu2.2.2
  clear hSu1 hSu2 hMu1 hMu2 hSd hMd
  have d2 : u2.cell? ⟨D, 2, none⟩ = some (.int .u8 p) := hDc.cell 2
  have d3 : u2.cell? ⟨D, 3, none⟩ = some (.int .u8 d) := hDc.cell 3
  have d4 : u2.cell? ⟨D, 4, none⟩ = some (.bool false) := hDc.cell 4
  have d1 : u2.cell? ⟨D, 1, none⟩ = some (.int .i8 (G : Int)) := hDc.cell 1
  have h78 : u2.cell? ⟨b, 78, none⟩ = some (.int .u8 (c 78)) := by
    have := hMc.atq 78 (by decide) .u8 rfl
    rwa [upd_other _ _ _ _ (by omega), upd_other _ _ _ _ (by omega), upd_other _ _ _ _ (by omega)] at this
  go_wp2_with fail
  first | refine bodyPost_end (results_none rfl _ _ _) rfl ?_ | refine bodyPost_ret (results_none rfl _ _ _) rfl ?_
  exact ⟨rfl, ⟨by rw [E.out]; exact hMc, hGc⟩⟩
set_option maxRecDepth 100000 in
set_option maxHeartbeats 4000000 in
theorem mmen_np (c : Nat → Int) (F G : Nat) (p d : Int) (t : Int) (b : Nat) (w : World) (hM : A.MvAt w b c c ((F : Int), (G : Int), p, d, false) t) (hF64 : F < 64) (hG64 : G < 64) (hq : PosOk c) (hd : (d != 0) = false) (hp : (p != 0) = true) (hp0 : 0 ≤ p) (hp1 : p ≤ 255) (dt : decide (0 ≤ t) = false) :
    Calls Tryz.prog 62 #[.pointer (some ⟨b, 0, none⟩)] w fun e w' => e = .returned (.tuple #[]) ∧ A.Step b (A.men c ((F : Int), (G : Int), p, d, false) t) c ((F : Int), (G : Int), p, d, false) t w w' := by
  have E := Lib.hid (show A.men c ((F : Int), (G : Int), p, d, false) t = (upd (upd (upd c (1 + F) 0) (1 + G) (c (1 + F))) (1 + G) (P.make (c 78) p)) by
    unfold A.men
    rw [if_neg (show ¬ false = true by simp), if_neg (show ¬ d ≠ 0 by simpa using hd), if_pos (show p ≠ 0 by simpa using hp), if_neg (of_decide_eq_false dt)]
    rfl)
  obtain ⟨x0, x1⟩ := pos_u8 hq (i := 78) (by decide) rfl
  have hmi := Tryz.underlying40
  have iF : (F : Int) < 64 := by omega
  have iG : (G : Int) < 64 := by omega
  skip
  have hlt := hM.lt
  have G0 := World.grownBy.refl w (some b)
  have hrm : w.rangeAt b 176 [.int .i8 (F : Int), .int .i8 (G : Int), .int .u8 p, .int .u8 d, .bool false] := hM.rm
  clear hq
  go_enter Tryz.func62, Tryz.ntmps62
  go_upto_region 6 with ((with_reducible refine wp_load_elem rfl 40 _ rfl hmi rfl ?_); refine ⟨b, 176, _, rfl, hrm, A.cell_info ((F : Int), (G : Int), p, d, false), ?_⟩)
  have hMc := hM.alloc (.cells #[.int .i8 (F : Int), .int .i8 (G : Int), .int .u8 p, .int .u8 d, .bool false] 40)
  have hGc : w.grownBy (w.alloc (.cells #[.int .i8 (F : Int), .int .i8 (G : Int), .int .u8 p, .int .u8 d, .bool false] 40)) (some b) := A.below_step G0 ((Below.refl _ _).alloc (Nat.le_refl _) _)
  have hDc := RowAt.new w #[.int .i8 (F : Int), .int .i8 (G : Int), .int .u8 p, .int .u8 d, .bool false] 40
  obtain ⟨D, hD⟩ : ∃ D, w.heap.size = D := ⟨_, rfl⟩
  have hDb : D ≠ b := by omega
  obtain ⟨W1, hW1⟩ : ∃ W1, w.alloc (.cells #[.int .i8 (F : Int), .int .i8 (G : Int), .int .u8 p, .int .u8 d, .bool false] 40) = W1 := ⟨_, rfl⟩
  rw [hD] at hDc ⊢
  rw [hW1] at hMc hGc hDc ⊢
  clear hM hrm G0 hW1
  have d2 : W1.cell? ⟨D, 2, none⟩ = some (.int .u8 p) := hDc.cell 2
  have d3 : W1.cell? ⟨D, 3, none⟩ = some (.int .u8 d) := hDc.cell 3
  have d4 : W1.cell? ⟨D, 4, none⟩ = some (.bool false) := hDc.cell 4
  have d1 : W1.cell? ⟨D, 1, none⟩ = some (.int .i8 (G : Int)) := hDc.cell 1
  have c181 := hMc.att
  skip
  go_wp2_with fail
  clear d1 d2 d3 d4 c181
  refine wp_region_held (S := fun w' => (∃ q', A.MvAt w' b q' c ((F : Int), (G : Int), p, d, false) t) ∧ RowAt w' D 40 #[.int .i8 (F : Int), .int .i8 (G : Int), .int .u8 p, .int .u8 d, .bool false] ∧ w.grownBy w' (some b)) (by kernel_rfl) ?_
  have hMd : A.MvAt W1.drew b _ c ((F : Int), (G : Int), p, d, false) t := ⟨⟨hMc.row.heap⟩⟩
  have hSd : (∃ q', A.MvAt W1.drew b q' c ((F : Int), (G : Int), p, d, false) t) ∧ RowAt W1.drew D 40 #[.int .i8 (F : Int), .int .i8 (G : Int), .int .u8 p, .int .u8 d, .bool false] ∧ w.grownBy W1.drew (some b) := ⟨⟨_, hMd⟩, ⟨hDc.heap⟩, A.below_step hGc (M.below_drew (Below.refl _ _) 1)⟩
  clear hMc hDc hGc
  refine takeD 0 (some 24) (.pointer (some ⟨b, 0, none⟩)) (by kernel_rfl) (by kernel_rfl) (by kernel_rfl) (by kernel_rfl) (by kernel_rfl) (fun _ _ _ h => h) (yi_pure (v0 := .pointer (some ⟨b, 0, none⟩)) (by kernel_rfl) (fun _ => by kernel_rfl) rfl) hSd ?_
  simp only [Act.put, List.setIfInBounds_toArray, List.set_cons_succ, List.set_cons_zero]
  refine takeD 1 (some 25) (.pointer (some ⟨D, 0, none⟩)) (by kernel_rfl) (by kernel_rfl) (by kernel_rfl) (by kernel_rfl) (by kernel_rfl) (fun _ _ _ h => h) (yi_pure (v0 := .pointer (some ⟨D, 0, none⟩)) (by kernel_rfl) (fun _ => by kernel_rfl) rfl) hSd ?_
  simp only [Act.put, List.setIfInBounds_toArray, List.set_cons_succ, List.set_cons_zero]
  refine takeD 2 (some 26) (.int .i8 (F : Int)) (by kernel_rfl) (by kernel_rfl) (by kernel_rfl) (by kernel_rfl) (by kernel_rfl) (fun _ _ _ h => h) (yi_load (by kernel_rfl) 26 (.tmp 25) (by kernel_rfl) ⟨D, 0, none⟩ (by kernel_rfl) (fun w9 => load_i8 _ _ w9) (fun w9 h9 => (h9.2.1.cell 0))) hSd ?_
  simp only [Act.put, List.setIfInBounds_toArray, List.set_cons_succ, List.set_cons_zero]
  refine takeD 3 (some 27) (.pointer (some ⟨b, 0, none⟩)) (by kernel_rfl) (by kernel_rfl) (by kernel_rfl) (by kernel_rfl) (by kernel_rfl) (fun _ _ _ h => h) (yi_pure (v0 := .pointer (some ⟨b, 0, none⟩)) (by kernel_rfl) (fun _ => by kernel_rfl) rfl) hSd ?_
  simp only [Act.put, List.setIfInBounds_toArray, List.set_cons_succ, List.set_cons_zero]
  refine takeD 4 (some 28) (.pointer (some ⟨D, 1, none⟩)) (by kernel_rfl) (by kernel_rfl) (by kernel_rfl) (by kernel_rfl) (by kernel_rfl) (fun _ _ _ h => h) (yi_pure (v0 := .pointer (some ⟨D, 1, none⟩)) (by kernel_rfl) (fun _ => by kernel_rfl) rfl) hSd ?_
  simp only [Act.put, List.setIfInBounds_toArray, List.set_cons_succ, List.set_cons_zero]
  refine takeD 5 (some 29) (.int .i8 (G : Int)) (by kernel_rfl) (by kernel_rfl) (by kernel_rfl) (by kernel_rfl) (by kernel_rfl) (fun _ _ _ h => h) (yi_load (by kernel_rfl) 26 (.tmp 28) (by kernel_rfl) ⟨D, 1, none⟩ (by kernel_rfl) (fun w9 => load_i8 _ _ w9) (fun w9 h9 => (h9.2.1.cell 1))) hSd ?_
  simp only [Act.put, List.setIfInBounds_toArray, List.set_cons_succ, List.set_cons_zero]
  refine takeD 6 (some 30) (.pointer (some ⟨b, 0, none⟩)) (by kernel_rfl) (by kernel_rfl) (by kernel_rfl) (by kernel_rfl) (by kernel_rfl) (fun _ _ _ h => h) (yi_pure (v0 := .pointer (some ⟨b, 0, none⟩)) (by kernel_rfl) (fun _ => by kernel_rfl) rfl) hSd ?_
  simp only [Act.put, List.setIfInBounds_toArray, List.set_cons_succ, List.set_cons_zero]
  refine takeD 7 (some 31) (.pointer (some ⟨D, 0, none⟩)) (by kernel_rfl) (by kernel_rfl) (by kernel_rfl) (by kernel_rfl) (by kernel_rfl) (fun _ _ _ h => h) (yi_pure (v0 := .pointer (some ⟨D, 0, none⟩)) (by kernel_rfl) (fun _ => by kernel_rfl) rfl) hSd ?_
  simp only [Act.put, List.setIfInBounds_toArray, List.set_cons_succ, List.set_cons_zero]
  refine takeD 8 (some 32) (.int .i8 (F : Int)) (by kernel_rfl) (by kernel_rfl) (by kernel_rfl) (by kernel_rfl) (by kernel_rfl) (fun _ _ _ h => h) (yi_load (by kernel_rfl) 26 (.tmp 31) (by kernel_rfl) ⟨D, 0, none⟩ (by kernel_rfl) (fun w9 => load_i8 _ _ w9) (fun w9 h9 => (h9.2.1.cell 0))) hSd ?_
  simp only [Act.put, List.setIfInBounds_toArray, List.set_cons_succ, List.set_cons_zero]
  refine takeD 9 (some 33) (.pointer (some ⟨b, 0, none⟩)) (by kernel_rfl) (by kernel_rfl) (by kernel_rfl) (by kernel_rfl) (by kernel_rfl) (fun _ _ _ h => h) (yi_pure (v0 := .pointer (some ⟨b, 0, none⟩)) (by kernel_rfl) (fun _ => by kernel_rfl) rfl) hSd ?_
  simp only [Act.put, List.setIfInBounds_toArray, List.set_cons_succ, List.set_cons_zero]
  refine takeD 10 (some 34) (.pointer (some ⟨b, 88, none⟩)) (by kernel_rfl) (by kernel_rfl) (by kernel_rfl) (by kernel_rfl) (by kernel_rfl) (fun _ _ _ h => h) (yi_pure (v0 := .pointer (some ⟨b, 88, none⟩)) (by kernel_rfl) (fun _ => by kernel_rfl) rfl) hSd ?_
  simp only [Act.put, List.setIfInBounds_toArray, List.set_cons_succ, List.set_cons_zero]
  refine takeD 11 (some 35) (.pointer (some ⟨b, 89, none⟩)) (by kernel_rfl) (by kernel_rfl) (by kernel_rfl) (by kernel_rfl) (by kernel_rfl) (fun _ _ _ h => h) (yi_pure (v0 := .pointer (some ⟨b, 89, none⟩)) (by kernel_rfl) (fun _ => by kernel_rfl) rfl) hSd ?_
  simp only [Act.put, List.setIfInBounds_toArray, List.set_cons_succ, List.set_cons_zero]
  refine takeD 12 (some 36) (.pointer (some ⟨b, 89 + F, none⟩)) (by kernel_rfl) (by kernel_rfl) (by kernel_rfl) (by kernel_rfl) (by kernel_rfl) (fun _ _ _ h => h) (yi_pure (v0 := .pointer (some ⟨b, 89 + F, none⟩)) (by kernel_rfl) (fun w9 => A.exec_ix (.tmp 35) (.tmp 32) (n := F) (off := 89) (k := .i8) (by kernel_rfl) (by kernel_rfl) (by kernel_rfl) w9 hF64) rfl) hSd ?_
  simp only [Act.put, List.setIfInBounds_toArray, List.set_cons_succ, List.set_cons_zero]
  refine takeD 13 (some 37) (.int .u8 (c (1 + F))) (by kernel_rfl) (by kernel_rfl) (by kernel_rfl) (by kernel_rfl) (by kernel_rfl) (fun _ _ _ h => h) (yi_load (by kernel_rfl) 5 (.tmp 36) (by kernel_rfl) ⟨b, 89 + F, none⟩ (by kernel_rfl) (fun w9 => load_u8 _ _ w9) (fun w9 h9 => (A.was_cell h9.1 F hF64))) hSd ?_
  simp only [Act.put, List.setIfInBounds_toArray, List.set_cons_succ, List.set_cons_zero]
  refine takeD 14 (some 38) (.pointer (some ⟨b, 0, none⟩)) (by kernel_rfl) (by kernel_rfl) (by kernel_rfl) (by kernel_rfl) (by kernel_rfl) (fun _ _ _ h => h) (yi_pure (v0 := .pointer (some ⟨b, 0, none⟩)) (by kernel_rfl) (fun _ => by kernel_rfl) rfl) hSd ?_
  simp only [Act.put, List.setIfInBounds_toArray, List.set_cons_succ, List.set_cons_zero]
  refine takeD 15 (some 39) (.pointer (some ⟨b, 0, none⟩)) (by kernel_rfl) (by kernel_rfl) (by kernel_rfl) (by kernel_rfl) (by kernel_rfl) (fun _ _ _ h => h) (yi_pure (v0 := .pointer (some ⟨b, 0, none⟩)) (by kernel_rfl) (fun _ => by kernel_rfl) rfl) hSd ?_
  simp only [Act.put, List.setIfInBounds_toArray, List.set_cons_succ, List.set_cons_zero]
  refine takeD 16 (some 40) (.pointer (some ⟨b, 1, none⟩)) (by kernel_rfl) (by kernel_rfl) (by kernel_rfl) (by kernel_rfl) (by kernel_rfl) (fun _ _ _ h => h) (yi_pure (v0 := .pointer (some ⟨b, 1, none⟩)) (by kernel_rfl) (fun _ => by kernel_rfl) rfl) hSd ?_
  simp only [Act.put, List.setIfInBounds_toArray, List.set_cons_succ, List.set_cons_zero]
  refine takeD 17 (some 41) (.pointer (some ⟨b, 1 + F, none⟩)) (by kernel_rfl) (by kernel_rfl) (by kernel_rfl) (by kernel_rfl) (by kernel_rfl) (fun _ _ _ h => h) (yi_pure (v0 := .pointer (some ⟨b, 1 + F, none⟩)) (by kernel_rfl) (fun w9 => A.exec_ix (.tmp 40) (.tmp 26) (n := F) (off := 1) (k := .i8) (by kernel_rfl) (by kernel_rfl) (by kernel_rfl) w9 hF64) rfl) hSd ?_
  simp only [Act.put, List.setIfInBounds_toArray, List.set_cons_succ, List.set_cons_zero]
  refine takeD 19 (some 42) (.pointer (some ⟨b, 0, none⟩)) (by kernel_rfl) (by kernel_rfl) (by kernel_rfl) (by kernel_rfl) (by kernel_rfl) (fun _ _ _ h => h) (yi_pure (v0 := .pointer (some ⟨b, 0, none⟩)) (by kernel_rfl) (fun _ => by kernel_rfl) rfl) hSd ?_
  simp only [Act.put, List.setIfInBounds_toArray, List.set_cons_succ, List.set_cons_zero]
  refine takeD 20 (some 43) (.pointer (some ⟨b, 0, none⟩)) (by kernel_rfl) (by kernel_rfl) (by kernel_rfl) (by kernel_rfl) (by kernel_rfl) (fun _ _ _ h => h) (yi_pure (v0 := .pointer (some ⟨b, 0, none⟩)) (by kernel_rfl) (fun _ => by kernel_rfl) rfl) hSd ?_
  simp only [Act.put, List.setIfInBounds_toArray, List.set_cons_succ, List.set_cons_zero]
  refine takeD 21 (some 44) (.pointer (some ⟨b, 1, none⟩)) (by kernel_rfl) (by kernel_rfl) (by kernel_rfl) (by kernel_rfl) (by kernel_rfl) (fun _ _ _ h => h) (yi_pure (v0 := .pointer (some ⟨b, 1, none⟩)) (by kernel_rfl) (fun _ => by kernel_rfl) rfl) hSd ?_
  simp only [Act.put, List.setIfInBounds_toArray, List.set_cons_succ, List.set_cons_zero]
  refine takeOne 18 (by kernel_rfl) (by kernel_rfl) (by kernel_rfl) ?_
  refine wp_store_mq 5 (.tmp 41) (.const (.int .u8 0)) (by kernel_rfl) (b := b) (i := 1 + F) (n := 0) (by kernel_rfl) (by kernel_rfl) (by omega) (pk_board hF64) Tryz.size_u8A hMd (fun u1 hPu1 hMu1 => ?_)
  have hSu1 : (∃ q', A.MvAt u1 b q' c ((F : Int), (G : Int), p, d, false) t) ∧ RowAt u1 D 40 #[.int .i8 (F : Int), .int .i8 (G : Int), .int .u8 p, .int .u8 d, .bool false] ∧ w.grownBy u1 (some b) := ⟨⟨_, hMu1⟩, hPu1.row hSd.2.1 hDb, A.put_grown hSd.2.2 hPu1⟩
  refine ⟨hSu1, ?_⟩
  clear hPu1
  simp only [Act.put]
  refine takeD 22 (some 45) (.pointer (some ⟨b, 1 + G, none⟩)) (by kernel_rfl) (by kernel_rfl) (by kernel_rfl) (by kernel_rfl) (by kernel_rfl) (fun _ _ _ h => h) (yi_pure (v0 := .pointer (some ⟨b, 1 + G, none⟩)) (by kernel_rfl) (fun w9 => A.exec_ix (.tmp 44) (.tmp 29) (n := G) (off := 1) (k := .i8) (by kernel_rfl) (by kernel_rfl) (by kernel_rfl) w9 hG64) rfl) hSu1 ?_
  simp only [Act.put, List.setIfInBounds_toArray]
  refine takeOne 23 (by kernel_rfl) (by kernel_rfl) (by kernel_rfl) ?_
  refine wp_store_mq 5 (.tmp 45) (.tmp 37) (by kernel_rfl) (b := b) (i := 1 + G) (n := (c (1 + F))) (by kernel_rfl) (by kernel_rfl) (by omega) (pk_board hG64) Tryz.size_u8A hMu1 (fun u2 hPu2 hMu2 => ?_)
  have hSu2 : (∃ q', A.MvAt u2 b q' c ((F : Int), (G : Int), p, d, false) t) ∧ RowAt u2 D 40 #[.int .i8 (F : Int), .int .i8 (G : Int), .int .u8 p, .int .u8 d, .bool false] ∧ w.grownBy u2 (some b) := ⟨⟨_, hMu2⟩, hPu2.row hSu1.2.1 hDb, A.put_grown hSu1.2.2 hPu2⟩
  refine ⟨hSu2, ?_⟩
  clear hPu2
  simp only [Act.put]
  refine wpAnyH_done (by kernel_rfl) ?_ _
  have hMc := hMu2
  have hDc := hSu2.2.1
  have hGc := hSu2.2.2
  clear hSu1 hSu2 hMu1 hMu2 hSd hMd
  have d2 : u2.cell? ⟨D, 2, none⟩ = some (.int .u8 p) := hDc.cell 2
  have d3 : u2.cell? ⟨D, 3, none⟩ = some (.int .u8 d) := hDc.cell 3
  have d4 : u2.cell? ⟨D, 4, none⟩ = some (.bool false) := hDc.cell 4
  have d1 : u2.cell? ⟨D, 1, none⟩ = some (.int .i8 (G : Int)) := hDc.cell 1
  have h78 : u2.cell? ⟨b, 78, none⟩ = some (.int .u8 (c 78)) := by
    have := hMc.atq 78 (by decide) .u8 rfl
    rwa [upd_other _ _ _ _ (by omega), upd_other _ _ _ _ (by omega)] at this
  go_wp2_with fail
  have hbl := hMc.lt
  have hbD := hDc.lt
  refine region_tail (n := 15) (by kernel_rfl) (by kernel_rfl) ?_
  simp only [List.take_succ_cons, List.take_zero, List.drop_succ_cons, List.drop_zero]
  repeat (quiet_step ((go_at_call 131; exact quiet_below (A.make_b _ _ _ x0 x1 hp0 hp1))))
  refine wpQuiet_nil ?_
  intro W4 hb4
  replace hMc := hMc.below hb4
  replace hGc := A.below_step hGc hb4
  clear d1 d2 d3 d4 h78 hbl hb4 hbD
  go_wp2_with ((with_reducible refine wpl_store_mq rfl _ _ _ rfl ?_); refine ⟨b, 1 + G, _, c, _, t, _, .u8, rfl, rfl, (by omega), pk_board hG64, Tryz.size_u8A, hMc, ?_⟩; intro W5 hP5 hM5; replace hMc := hM5; clear hM5)
  replace hGc := A.put_grown hGc hP5
  first | refine bodyPost_end (results_none rfl _ _ _) rfl ?_ | refine bodyPost_ret (results_none rfl _ _ _) rfl ?_
  exact ⟨rfl, ⟨by rw [E.out]; exact hMc, hGc⟩⟩
set_option maxRecDepth 100000 in
set_option maxHeartbeats 4000000 in
theorem mmen_nq (c : Nat → Int) (F G : Nat) (p d : Int) (t : Int) (b : Nat) (w : World) (hM : A.MvAt w b c c ((F : Int), (G : Int), p, d, false) t) (hF64 : F < 64) (hG64 : G < 64) (hq : PosOk c) (hd : (d != 0) = false) (hp : (p != 0) = false) (_hp0 : 0 ≤ p) (_hp1 : p ≤ 255) (dt : decide (0 ≤ t) = false) :
    Calls Tryz.prog 62 #[.pointer (some ⟨b, 0, none⟩)] w fun e w' => e = .returned (.tuple #[]) ∧ A.Step b (A.men c ((F : Int), (G : Int), p, d, false) t) c ((F : Int), (G : Int), p, d, false) t w w' := by
  have E := Lib.hid (show A.men c ((F : Int), (G : Int), p, d, false) t = (upd (upd c (1 + F) 0) (1 + G) (c (1 + F))) by
    unfold A.men
    rw [if_neg (show ¬ false = true by simp), if_neg (show ¬ d ≠ 0 by simpa using hd), if_neg (show ¬ p ≠ 0 by simpa using hp), if_neg (of_decide_eq_false dt)]
    rfl)
  obtain ⟨x0, x1⟩ := pos_u8 hq (i := 78) (by decide) rfl
  have hmi := Tryz.underlying40
  have iF : (F : Int) < 64 := by omega
  have iG : (G : Int) < 64 := by omega
  skip
  have hlt := hM.lt
  have G0 := World.grownBy.refl w (some b)
  have hrm : w.rangeAt b 176 [.int .i8 (F : Int), .int .i8 (G : Int), .int .u8 p, .int .u8 d, .bool false] := hM.rm
  clear hq
  go_enter Tryz.func62, Tryz.ntmps62
  go_upto_region 6 with ((with_reducible refine wp_load_elem rfl 40 _ rfl hmi rfl ?_); refine ⟨b, 176, _, rfl, hrm, A.cell_info ((F : Int), (G : Int), p, d, false), ?_⟩)
  have hMc := hM.alloc (.cells #[.int .i8 (F : Int), .int .i8 (G : Int), .int .u8 p, .int .u8 d, .bool false] 40)
  have hGc : w.grownBy (w.alloc (.cells #[.int .i8 (F : Int), .int .i8 (G : Int), .int .u8 p, .int .u8 d, .bool false] 40)) (some b) := A.below_step G0 ((Below.refl _ _).alloc (Nat.le_refl _) _)
  have hDc := RowAt.new w #[.int .i8 (F : Int), .int .i8 (G : Int), .int .u8 p, .int .u8 d, .bool false] 40
  obtain ⟨D, hD⟩ : ∃ D, w.heap.size = D := ⟨_, rfl⟩
  have hDb : D ≠ b := by omega
  obtain ⟨W1, hW1⟩ : ∃ W1, w.alloc (.cells #[.int .i8 (F : Int), .int .i8 (G : Int), .int .u8 p, .int .u8 d, .bool false] 40) = W1 := ⟨_, rfl⟩
  rw [hD] at hDc ⊢
  rw [hW1] at hMc hGc hDc ⊢
  clear hM hrm G0 hW1
  have d2 : W1.cell? ⟨D, 2, none⟩ = some (.int .u8 p) := hDc.cell 2
  have d3 : W1.cell? ⟨D, 3, none⟩ = some (.int .u8 d) := hDc.cell 3
  have d4 : W1.cell? ⟨D, 4, none⟩ = some (.bool false) := hDc.cell 4
  have d1 : W1.cell? ⟨D, 1, none⟩ = some (.int .i8 (G : Int)) := hDc.cell 1
  have c181 := hMc.att
  skip
  go_wp2_with fail
  clear d1 d2 d3 d4 c181
  refine wp_region_held (S := fun w' => (∃ q', A.MvAt w' b q' c ((F : Int), (G : Int), p, d, false) t) ∧ RowAt w' D 40 #[.int .i8 (F : Int), .int .i8 (G : Int), .int .u8 p, .int .u8 d, .bool false] ∧ w.grownBy w' (some b)) (by kernel_rfl) ?_
  have hMd : A.MvAt W1.drew b _ c ((F : Int), (G : Int), p, d, false) t := ⟨⟨hMc.row.heap⟩⟩
  have hSd : (∃ q', A.MvAt W1.drew b q' c ((F : Int), (G : Int), p, d, false) t) ∧ RowAt W1.drew D 40 #[.int .i8 (F : Int), .int .i8 (G : Int), .int .u8 p, .int .u8 d, .bool false] ∧ w.grownBy W1.drew (some b) := ⟨⟨_, hMd⟩, ⟨hDc.heap⟩, A.below_step hGc (M.below_drew (Below.refl _ _) 1)⟩
  clear hMc hDc hGc
  refine takeD 0 (some 24) (.pointer (some ⟨b, 0, none⟩)) (by kernel_rfl) (by kernel_rfl) (by kernel_rfl) (by kernel_rfl) (by kernel_rfl) (fun _ _ _ h => h) (yi_pure (v0 := .pointer (some ⟨b, 0, none⟩)) (by kernel_rfl) (fun _ => by kernel_rfl) rfl) hSd ?_
  simp only [Act.put, List.setIfInBounds_toArray, List.set_cons_succ, List.set_cons_zero]
  refine takeD 1 (some 25) (.pointer (some ⟨D, 0, none⟩)) (by kernel_rfl) (by kernel_rfl) (by kernel_rfl) (by kernel_rfl) (by kernel_rfl) (fun _ _ _ h => h) (yi_pure (v0 := .pointer (some ⟨D, 0, none⟩)) (by kernel_rfl) (fun _ => by kernel_rfl) rfl) hSd ?_
  simp only [Act.put, List.setIfInBounds_toArray, List.set_cons_succ, List.set_cons_zero]
  refine takeD 2 (some 26) (.int .i8 (F : Int)) (by kernel_rfl) (by kernel_rfl) (by kernel_rfl) (by kernel_rfl) (by kernel_rfl) (fun _ _ _ h => h) (yi_load (by kernel_rfl) 26 (.tmp 25) (by kernel_rfl) ⟨D, 0, none⟩ (by kernel_rfl) (fun w9 => load_i8 _ _ w9) (fun w9 h9 => (h9.2.1.cell 0))) hSd ?_
  simp only [Act.put, List.setIfInBounds_toArray, List.set_cons_succ, List.set_cons_zero]
  refine takeD 3 (some 27) (.pointer (some ⟨b, 0, none⟩)) (by kernel_rfl) (by kernel_rfl) (by kernel_rfl) (by kernel_rfl) (by kernel_rfl) (fun _ _ _ h => h) (yi_pure (v0 := .pointer (some ⟨b, 0, none⟩)) (by kernel_rfl) (fun _ => by kernel_rfl) rfl) hSd ?_
  simp only [Act.put, List.setIfInBounds_toArray, List.set_cons_succ, List.set_cons_zero]
  refine takeD 4 (some 28) (.pointer (some ⟨D, 1, none⟩)) (by kernel_rfl) (by kernel_rfl) (by kernel_rfl) (by kernel_rfl) (by kernel_rfl) (fun _ _ _ h => h) (yi_pure (v0 := .pointer (some ⟨D, 1, none⟩)) (by kernel_rfl) (fun _ => by kernel_rfl) rfl) hSd ?_
  simp only [Act.put, List.setIfInBounds_toArray, List.set_cons_succ, List.set_cons_zero]
  refine takeD 5 (some 29) (.int .i8 (G : Int)) (by kernel_rfl) (by kernel_rfl) (by kernel_rfl) (by kernel_rfl) (by kernel_rfl) (fun _ _ _ h => h) (yi_load (by kernel_rfl) 26 (.tmp 28) (by kernel_rfl) ⟨D, 1, none⟩ (by kernel_rfl) (fun w9 => load_i8 _ _ w9) (fun w9 h9 => (h9.2.1.cell 1))) hSd ?_
  simp only [Act.put, List.setIfInBounds_toArray, List.set_cons_succ, List.set_cons_zero]
  refine takeD 6 (some 30) (.pointer (some ⟨b, 0, none⟩)) (by kernel_rfl) (by kernel_rfl) (by kernel_rfl) (by kernel_rfl) (by kernel_rfl) (fun _ _ _ h => h) (yi_pure (v0 := .pointer (some ⟨b, 0, none⟩)) (by kernel_rfl) (fun _ => by kernel_rfl) rfl) hSd ?_
  simp only [Act.put, List.setIfInBounds_toArray, List.set_cons_succ, List.set_cons_zero]
  refine takeD 7 (some 31) (.pointer (some ⟨D, 0, none⟩)) (by kernel_rfl) (by kernel_rfl) (by kernel_rfl) (by kernel_rfl) (by kernel_rfl) (fun _ _ _ h => h) (yi_pure (v0 := .pointer (some ⟨D, 0, none⟩)) (by kernel_rfl) (fun _ => by kernel_rfl) rfl) hSd ?_
  simp only [Act.put, List.setIfInBounds_toArray, List.set_cons_succ, List.set_cons_zero]
  refine takeD 8 (some 32) (.int .i8 (F : Int)) (by kernel_rfl) (by kernel_rfl) (by kernel_rfl) (by kernel_rfl) (by kernel_rfl) (fun _ _ _ h => h) (yi_load (by kernel_rfl) 26 (.tmp 31) (by kernel_rfl) ⟨D, 0, none⟩ (by kernel_rfl) (fun w9 => load_i8 _ _ w9) (fun w9 h9 => (h9.2.1.cell 0))) hSd ?_
  simp only [Act.put, List.setIfInBounds_toArray, List.set_cons_succ, List.set_cons_zero]
  refine takeD 9 (some 33) (.pointer (some ⟨b, 0, none⟩)) (by kernel_rfl) (by kernel_rfl) (by kernel_rfl) (by kernel_rfl) (by kernel_rfl) (fun _ _ _ h => h) (yi_pure (v0 := .pointer (some ⟨b, 0, none⟩)) (by kernel_rfl) (fun _ => by kernel_rfl) rfl) hSd ?_
  simp only [Act.put, List.setIfInBounds_toArray, List.set_cons_succ, List.set_cons_zero]
  refine takeD 10 (some 34) (.pointer (some ⟨b, 88, none⟩)) (by kernel_rfl) (by kernel_rfl) (by kernel_rfl) (by kernel_rfl) (by kernel_rfl) (fun _ _ _ h => h) (yi_pure (v0 := .pointer (some ⟨b, 88, none⟩)) (by kernel_rfl) (fun _ => by kernel_rfl) rfl) hSd ?_
  simp only [Act.put, List.setIfInBounds_toArray, List.set_cons_succ, List.set_cons_zero]
  refine takeD 11 (some 35) (.pointer (some ⟨b, 89, none⟩)) (by kernel_rfl) (by kernel_rfl) (by kernel_rfl) (by kernel_rfl) (by kernel_rfl) (fun _ _ _ h => h) (yi_pure (v0 := .pointer (some ⟨b, 89, none⟩)) (by kernel_rfl) (fun _ => by kernel_rfl) rfl) hSd ?_
  simp only [Act.put, List.setIfInBounds_toArray, List.set_cons_succ, List.set_cons_zero]
  refine takeD 12 (some 36) (.pointer (some ⟨b, 89 + F, none⟩)) (by kernel_rfl) (by kernel_rfl) (by kernel_rfl) (by kernel_rfl) (by kernel_rfl) (fun _ _ _ h => h) (yi_pure (v0 := .pointer (some ⟨b, 89 + F, none⟩)) (by kernel_rfl) (fun w9 => A.exec_ix (.tmp 35) (.tmp 32) (n := F) (off := 89) (k := .i8) (by kernel_rfl) (by kernel_rfl) (by kernel_rfl) w9 hF64) rfl) hSd ?_
  simp only [Act.put, List.setIfInBounds_toArray, List.set_cons_succ, List.set_cons_zero]
  refine takeD 13 (some 37) (.int .u8 (c (1 + F))) (by kernel_rfl) (by kernel_rfl) (by kernel_rfl) (by kernel_rfl) (by kernel_rfl) (fun _ _ _ h => h) (yi_load (by kernel_rfl) 5 (.tmp 36) (by kernel_rfl) ⟨b, 89 + F, none⟩ (by kernel_rfl) (fun w9 => load_u8 _ _ w9) (fun w9 h9 => (A.was_cell h9.1 F hF64))) hSd ?_
  simp only [Act.put, List.setIfInBounds_toArray, List.set_cons_succ, List.set_cons_zero]
  refine takeD 14 (some 38) (.pointer (some ⟨b, 0, none⟩)) (by kernel_rfl) (by kernel_rfl) (by kernel_rfl) (by kernel_rfl) (by kernel_rfl) (fun _ _ _ h => h) (yi_pure (v0 := .pointer (some ⟨b, 0, none⟩)) (by kernel_rfl) (fun _ => by kernel_rfl) rfl) hSd ?_
  simp only [Act.put, List.setIfInBounds_toArray, List.set_cons_succ, List.set_cons_zero]
  refine takeD 15 (some 39) (.pointer (some ⟨b, 0, none⟩)) (by kernel_rfl) (by kernel_rfl) (by kernel_rfl) (by kernel_rfl) (by kernel_rfl) (fun _ _ _ h => h) (yi_pure (v0 := .pointer (some ⟨b, 0, none⟩)) (by kernel_rfl) (fun _ => by kernel_rfl) rfl) hSd ?_
  simp only [Act.put, List.setIfInBounds_toArray, List.set_cons_succ, List.set_cons_zero]
  refine takeD 16 (some 40) (.pointer (some ⟨b, 1, none⟩)) (by kernel_rfl) (by kernel_rfl) (by kernel_rfl) (by kernel_rfl) (by kernel_rfl) (fun _ _ _ h => h) (yi_pure (v0 := .pointer (some ⟨b, 1, none⟩)) (by kernel_rfl) (fun _ => by kernel_rfl) rfl) hSd ?_
  simp only [Act.put, List.setIfInBounds_toArray, List.set_cons_succ, List.set_cons_zero]
  refine takeD 17 (some 41) (.pointer (some ⟨b, 1 + F, none⟩)) (by kernel_rfl) (by kernel_rfl) (by kernel_rfl) (by kernel_rfl) (by kernel_rfl) (fun _ _ _ h => h) (yi_pure (v0 := .pointer (some ⟨b, 1 + F, none⟩)) (by kernel_rfl) (fun w9 => A.exec_ix (.tmp 40) (.tmp 26) (n := F) (off := 1) (k := .i8) (by kernel_rfl) (by kernel_rfl) (by kernel_rfl) w9 hF64) rfl) hSd ?_
  simp only [Act.put, List.setIfInBounds_toArray, List.set_cons_succ, List.set_cons_zero]
  refine takeD 19 (some 42) (.pointer (some ⟨b, 0, none⟩)) (by kernel_rfl) (by kernel_rfl) (by kernel_rfl) (by kernel_rfl) (by kernel_rfl) (fun _ _ _ h => h) (yi_pure (v0 := .pointer (some ⟨b, 0, none⟩)) (by kernel_rfl) (fun _ => by kernel_rfl) rfl) hSd ?_
  simp only [Act.put, List.setIfInBounds_toArray, List.set_cons_succ, List.set_cons_zero]
  refine takeD 20 (some 43) (.pointer (some ⟨b, 0, none⟩)) (by kernel_rfl) (by kernel_rfl) (by kernel_rfl) (by kernel_rfl) (by kernel_rfl) (fun _ _ _ h => h) (yi_pure (v0 := .pointer (some ⟨b, 0, none⟩)) (by kernel_rfl) (fun _ => by kernel_rfl) rfl) hSd ?_
  simp only [Act.put, List.setIfInBounds_toArray, List.set_cons_succ, List.set_cons_zero]
  refine takeD 21 (some 44) (.pointer (some ⟨b, 1, none⟩)) (by kernel_rfl) (by kernel_rfl) (by kernel_rfl) (by kernel_rfl) (by kernel_rfl) (fun _ _ _ h => h) (yi_pure (v0 := .pointer (some ⟨b, 1, none⟩)) (by kernel_rfl) (fun _ => by kernel_rfl) rfl) hSd ?_
  simp only [Act.put, List.setIfInBounds_toArray, List.set_cons_succ, List.set_cons_zero]
  refine takeOne 18 (by kernel_rfl) (by kernel_rfl) (by kernel_rfl) ?_
  refine wp_store_mq 5 (.tmp 41) (.const (.int .u8 0)) (by kernel_rfl) (b := b) (i := 1 + F) (n := 0) (by kernel_rfl) (by kernel_rfl) (by omega) (pk_board hF64) Tryz.size_u8A hMd (fun u1 hPu1 hMu1 => ?_)
  have hSu1 : (∃ q', A.MvAt u1 b q' c ((F : Int), (G : Int), p, d, false) t) ∧ RowAt u1 D 40 #[.int .i8 (F : Int), .int .i8 (G : Int), .int .u8 p, .int .u8 d, .bool false] ∧ w.grownBy u1 (some b) := ⟨⟨_, hMu1⟩, hPu1.row hSd.2.1 hDb, A.put_grown hSd.2.2 hPu1⟩
  refine ⟨hSu1, ?_⟩
  clear hPu1
  simp only [Act.put]
  refine takeD 22 (some 45) (.pointer (some ⟨b, 1 + G, none⟩)) (by kernel_rfl) (by kernel_rfl) (by kernel_rfl) (by kernel_rfl) (by kernel_rfl) (fun _ _ _ h => h) (yi_pure (v0 := .pointer (some ⟨b, 1 + G, none⟩)) (by kernel_rfl) (fun w9 => A.exec_ix (.tmp 44) (.tmp 29) (n := G) (off := 1) (k := .i8) (by kernel_rfl) (by kernel_rfl) (by kernel_rfl) w9 hG64) rfl) hSu1 ?_
  simp only [Act.put, List.setIfInBounds_toArray]
  refine takeOne 23 (by kernel_rfl) (by kernel_rfl) (by kernel_rfl) ?_
  refine wp_store_mq 5 (.tmp 45) (.tmp 37) (by kernel_rfl) (b := b) (i := 1 + G) (n := (c (1 + F))) (by kernel_rfl) (by kernel_rfl) (by omega) (pk_board hG64) Tryz.size_u8A hMu1 (fun u2 hPu2 hMu2 => ?_)
  have hSu2 : (∃ q', A.MvAt u2 b q' c ((F : Int), (G : Int), p, d, false) t) ∧ RowAt u2 D 40 #[.int .i8 (F : Int), .int .i8 (G : Int), .int .u8 p, .int .u8 d, .bool false] ∧ w.grownBy u2 (some b) := ⟨⟨_, hMu2⟩, hPu2.row hSu1.2.1 hDb, A.put_grown hSu1.2.2 hPu2⟩
  refine ⟨hSu2, ?_⟩
  clear hPu2
  simp only [Act.put]
  refine wpAnyH_done (by kernel_rfl) ?_ _
  have hMc := hMu2
  have hDc := hSu2.2.1
  have hGc := hSu2.2.2
  clear hSu1 hSu2 hMu1 hMu2 hSd hMd
  have d2 : u2.cell? ⟨D, 2, none⟩ = some (.int .u8 p) := hDc.cell 2
  have d3 : u2.cell? ⟨D, 3, none⟩ = some (.int .u8 d) := hDc.cell 3
  have d4 : u2.cell? ⟨D, 4, none⟩ = some (.bool false) := hDc.cell 4
  have d1 : u2.cell? ⟨D, 1, none⟩ = some (.int .i8 (G : Int)) := hDc.cell 1
  have h78 : u2.cell? ⟨b, 78, none⟩ = some (.int .u8 (c 78)) := by
    have := hMc.atq 78 (by decide) .u8 rfl
    rwa [upd_other _ _ _ _ (by omega), upd_other _ _ _ _ (by omega)] at this
  go_wp2_with fail
  first | refine bodyPost_end (results_none rfl _ _ _) rfl ?_ | refine bodyPost_ret (results_none rfl _ _ _) rfl ?_
  exact ⟨rfl, ⟨by rw [E.out]; exact hMc, hGc⟩⟩
end Go.Proofs.YtgkndhpolcnjbaaGreatDoor
