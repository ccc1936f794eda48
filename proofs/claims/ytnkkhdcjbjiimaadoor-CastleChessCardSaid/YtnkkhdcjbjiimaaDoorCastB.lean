/- The program's package castle: all. -/
import Derived.Test.YtnkkhdcjbjiimaaDoorCastA
namespace Go.Proofs.YtnkkhdcjbjiimaaDoor
open Go.RowKit Go.Sort
attribute [local go_sem] Oper.semAt_some

set_option maxRecDepth 100000 in
set_option maxHeartbeats 2000000 in
theorem all_empty (a b Bm : Nat) (is : Nat → Bool) (w : World) (ha : a < 64) (hb : b < 64)
    (hok : ∀ (s : Nat), s < 64 → ∀ W, Below w.heap.size w W → Calls Tryd.prog 65 #[.int .i64 (s : Int), .pointer (some ⟨Bm, 0, none⟩)] W fun e W' => e = .returned (.bool (is s)) ∧ Below W.heap.size W W') :
    Calls Tryd.prog 68 #[.int .i64 (a : Int), .int .i64 (b : Int), .func (.func 65) #[] #[.pointer (some ⟨Bm, 0, none⟩)]] w fun e w' => e = .returned (.bool ((T.seg a b).all fun x => is x.val)) ∧ Below w.heap.size w w' := by
  have Hok := Lib.hid hok
  clear hok
  refine (callsIn_wide (n := 6)).1 ?_
  refine callsIn_of_wp_marks Tryd.func68 rfl trivial ?_ rfl
  simp only [Tryd.ntmps68, List.size_toArray, List.length_cons, List.length_nil, Nat.reduceAdd, Nat.reduceSub, Array.replicate_succ, Array.replicate_zero, List.push_toArray, List.append_toArray, List.nil_append, List.cons_append]
  gi_wp2_with (first
    | (refine ⟨trivial, ?_⟩; gi_at_call 94; refine (cfrom_any _ a b _).mono ?_; rintro e w' ⟨rfl, rfl⟩)
    | (gi_at_call 94; refine (cfrom_any _ a b _).mono ?_; rintro e w' ⟨rfl, rfl⟩))
  have bI := (((Boxed.new w 94 (.func (.func 65) #[] #[.pointer (some ⟨Bm, 0, none⟩)])).alloc (.cells #[.bool false] 4)).alloc (.cells #[.int .i64 (a : Int)] 3)).alloc (.cells #[.int .i64 (b : Int)] 3)
  have bR := ((Boxed.new (w.alloc (.cells #[.func (.func 65) #[] #[.pointer (some ⟨Bm, 0, none⟩)]] 94)) 4 (.bool false)).alloc (.cells #[.int .i64 (a : Int)] 3)).alloc (.cells #[.int .i64 (b : Int)] 3)
  have bA := (Boxed.new ((w.alloc (.cells #[.func (.func 65) #[] #[.pointer (some ⟨Bm, 0, none⟩)]] 94)).alloc (.cells #[.bool false] 4)) 3 (.int .i64 (a : Int))).alloc (.cells #[.int .i64 (b : Int)] 3)
  have bB := Boxed.new (((w.alloc (.cells #[.func (.func 65) #[] #[.pointer (some ⟨Bm, 0, none⟩)]] 94)).alloc (.cells #[.bool false] 4)).alloc (.cells #[.int .i64 (a : Int)] 3)) 3 (.int .i64 (b : Int))
  simp only [World.size_alloc] at bR bA bB
  have hB0 := (((((Below.refl w.heap.size w).alloc (Nat.le_refl _) (.cells #[.func (.func 65) #[] #[.pointer (some ⟨Bm, 0, none⟩)]] 94)).alloc (by simp) (.cells #[.bool false] 4)).alloc (by simp; omega) (.cells #[.int .i64 (a : Int)] 3)).alloc (by simp; omega) (.cells #[.int .i64 (b : Int)] 3))
  have hsz : ((((w.alloc (.cells #[.func (.func 65) #[] #[.pointer (some ⟨Bm, 0, none⟩)]] 94)).alloc (.cells #[.bool false] 4)).alloc (.cells #[.int .i64 (a : Int)] 3)).alloc (.cells #[.int .i64 (b : Int)] 3)).heap.size = w.heap.size + 4 := by simp
  obtain ⟨W0, hW0⟩ : ∃ W0, (((w.alloc (.cells #[.func (.func 65) #[] #[.pointer (some ⟨Bm, 0, none⟩)]] 94)).alloc (.cells #[.bool false] 4)).alloc (.cells #[.int .i64 (a : Int)] 3)).alloc (.cells #[.int .i64 (b : Int)] 3) = W0 := ⟨_, rfl⟩
  rw [hW0] at bI bR bA bB hB0 hsz ⊢
  clear hW0
  refine wpIn_rangeFunc_ownG rfl (by decide) (gf := 110) (lb := #[.pointer (some ⟨w.heap.size + 1 + 1, 0, none⟩), .pointer (some ⟨w.heap.size + 1 + 1 + 1, 0, none⟩)]) rfl trivial (enters_of Tryd.func110 (by kernel_rfl) rfl)
    (from1_stops _ (w.heap.size + 1 + 1) (w.heap.size + 1 + 1 + 1) W0.heap.size a b ha hb W0 (by omega) (by omega) (Nat.le_refl _) bA.cell bB.cell) belowK_t (belowK_b (by omega)) (Below.refl _ _) (fun _ => rfl)
    (fun pre W => (∀ x ∈ pre, is x.val = true) ∧ Below W0.heap.size W0 W)
    (fun c pre W => ((c = .ret ∧ ∃ x ∈ pre, is x.val = false) ∧ Boxed W (w.heap.size + 1) 4 (.bool false)) ∧ Below w.heap.size w W)
    (OwnFrom.and (ownFrom_pure _ _) (ownFrom_below (Nat.le_refl _) (Nat.le_refl _)))
    (fun c => OwnFrom.and (OwnFrom.and (ownFrom_pure _ _) (Own.from (boxed_own _ _ _) _)) (ownFrom_below (Nat.le_refl _) (by omega)))
    ⟨by simp, Below.refl _ _⟩
    (fun x => { tmps := #[.int .i64 (a : Int), .int .i64 (b : Int), .func (.func 65) #[] #[.pointer (some ⟨Bm, 0, none⟩)], undef, undef, .pointer (some ⟨w.heap.size, 0, none⟩), .pointer (some ⟨w.heap.size + 1, 0, none⟩), .int .i64 ((x.val : Nat) : Int), .int .i64 (a : Int), .int .i64 (b : Int), .func (.func 110) #[] #[.pointer (some ⟨w.heap.size + 1 + 1, 0, none⟩), .pointer (some ⟨w.heap.size + 1 + 1 + 1, 0, none⟩)], .int .i64 ((x.val : Nat) : Int), undef, undef, undef, undef], defers := [] })
    ?assign ?body ?done ?stop
  case assign =>
    intro l x W K hK
    gi_wp2
    exact hK
  case body =>
    rintro l pre x W ⟨hall, hBW⟩ hlt
    have hzW := hBW.size
    have hB1 : Below w.heap.size w W := hB0.trans (hBW.mono (by omega))
    have bI1 : Boxed W w.heap.size _ _ := (hBW.block _ bI.lt).trans bI
    have bR1 : Boxed W (w.heap.size + 1) _ _ := (hBW.block _ bR.lt).trans bR
    have cI := bI1.cell
    have cR := bR1.cell
    have fR := bR1.frozen
    have hx := x.isLt
    have Hx := Lib.hid (Hok.out x.val hx W hB1)
    gi_wp2
    refine ⟨trivial, (CallsIn.inRound l (callsIn_wide.2 Hx.out)).mono ?_⟩
    rintro e W2 ⟨rfl, hb2⟩
    have hb3 : Below W0.heap.size W W2 := hb2.mono hzW
    have bR2 : Boxed W2 (w.heap.size + 1) _ _ := (hb2.block _ bR1.lt).trans bR1
    have cR2 := bR2.cell
    have fR2 := bR2.frozen
    have hB2 : Below w.heap.size w W2 := below_next hB1 hb2
    cases hi : is x.val
    · gi_wp2
      exact ⟨(K.KeepsFrom.of_below hb2).trans ((KeepsOthers.setCell _ _ _).from _), ⟨⟨rfl, x, by simp, hi⟩, bR2.set _⟩, hB2.setCell (p := ⟨w.heap.size + 1, 0, none⟩) (by simp) _⟩
    · gi_wp2
      refine ⟨K.KeepsFrom.of_below hb2, hb3, fun y hy => ?_, hBW.trans hb3⟩
      rcases List.mem_append.1 hy with h | h
      · exact hall y h
      · rw [List.mem_singleton.1 h]; exact hi
  case done =>
    rintro D ys W hD rfl ⟨hall, hBW⟩ hK
    have hzW := hBW.size
    have hB1 : Below w.heap.size w W := hB0.trans (hBW.mono (by omega))
    have bR1 : Boxed W (w.heap.size + 1) _ _ := (hBW.block _ bR.lt).trans bR
    have cR := bR1.cell
    have fR := bR1.frozen
    gi_wp2
    have hK' := (KeepsOthers.setCell W ⟨w.heap.size + 1, 0, none⟩ (.bool true)).same D _ hK rfl
    refine ⟨by simp, .inl ⟨_, _, rfl, run_takeDeferred hK', ?_⟩⟩
    have hc5 := cell_kept (bR1.set (.bool true)).cell (grownBy_putObj' _ D (.deferred none)) (fun r e => by cases e; exact ⟨_, hK', rfl⟩)
    refine ⟨.bool true, ?_, ?_, (hB1.setCell (p := ⟨w.heap.size + 1, 0, none⟩) (by simp) _).trans (belowK_b (w := w) (Nat.le_refl _) _ D _ _ (by omega) hK' rfl rfl)⟩
    · simp [results, Tryd.results68, go_sem, hc5]
    · have : ((T.seg a b).all fun x => is x.val) = true := by
        rw [List.all_eq_true]; exact hall
      rw [this]
  case stop =>
    rintro D c pre W hD hpre ⟨⟨⟨rfl, x, hx, hi⟩, bR1⟩, hB1⟩ hK
    gi_wp2
    refine ⟨by simp, .inl ⟨_, _, rfl, run_takeDeferred hK, ?_⟩⟩
    have hc5 := cell_kept bR1.cell (grownBy_putObj' _ D (.deferred none)) (fun r e => by cases e; exact ⟨_, hK, rfl⟩)
    refine ⟨.bool false, ?_, ?_, hB1.trans (belowK_b (w := w) (Nat.le_refl _) W D _ _ (by omega) hK rfl rfl)⟩
    · simp [results, Tryd.results68, go_sem, hc5]
    · have : ((T.seg a b).all fun x => is x.val) = false := by
        rw [List.all_eq_false]; exact ⟨x, hpre.subset hx, by rw [hi]; simp⟩
      rw [this]

set_option maxRecDepth 100000 in
set_option maxHeartbeats 2000000 in
theorem all_safe (a b Bp Bo Bq : Nat) (is : Nat → Bool) (w : World) (ha : a < 64) (hb : b < 64)
    (hok : ∀ (s : Nat), s < 64 → ∀ W, Below w.heap.size w W → Calls Tryd.prog 66 #[.int .i64 (s : Int), .pointer (some ⟨Bp, 0, none⟩), .pointer (some ⟨Bo, 0, none⟩), .pointer (some ⟨Bq, 0, none⟩)] W fun e W' => e = .returned (.bool (is s)) ∧ Below W.heap.size W W') :
    Calls Tryd.prog 68 #[.int .i64 (a : Int), .int .i64 (b : Int), .func (.func 66) #[] #[.pointer (some ⟨Bp, 0, none⟩), .pointer (some ⟨Bo, 0, none⟩), .pointer (some ⟨Bq, 0, none⟩)]] w fun e w' => e = .returned (.bool ((T.seg a b).all fun x => is x.val)) ∧ Below w.heap.size w w' := by
  have Hok := Lib.hid hok
  clear hok
  refine (callsIn_wide (n := 6)).1 ?_
  refine callsIn_of_wp_marks Tryd.func68 rfl trivial ?_ rfl
  simp only [Tryd.ntmps68, List.size_toArray, List.length_cons, List.length_nil, Nat.reduceAdd, Nat.reduceSub, Array.replicate_succ, Array.replicate_zero, List.push_toArray, List.append_toArray, List.nil_append, List.cons_append]
  gi_wp2_with (first
    | (refine ⟨trivial, ?_⟩; gi_at_call 94; refine (cfrom_any _ a b _).mono ?_; rintro e w' ⟨rfl, rfl⟩)
    | (gi_at_call 94; refine (cfrom_any _ a b _).mono ?_; rintro e w' ⟨rfl, rfl⟩))
  have bI := (((Boxed.new w 94 (.func (.func 66) #[] #[.pointer (some ⟨Bp, 0, none⟩), .pointer (some ⟨Bo, 0, none⟩), .pointer (some ⟨Bq, 0, none⟩)])).alloc (.cells #[.bool false] 4)).alloc (.cells #[.int .i64 (a : Int)] 3)).alloc (.cells #[.int .i64 (b : Int)] 3)
  have bR := ((Boxed.new (w.alloc (.cells #[.func (.func 66) #[] #[.pointer (some ⟨Bp, 0, none⟩), .pointer (some ⟨Bo, 0, none⟩), .pointer (some ⟨Bq, 0, none⟩)]] 94)) 4 (.bool false)).alloc (.cells #[.int .i64 (a : Int)] 3)).alloc (.cells #[.int .i64 (b : Int)] 3)
  have bA := (Boxed.new ((w.alloc (.cells #[.func (.func 66) #[] #[.pointer (some ⟨Bp, 0, none⟩), .pointer (some ⟨Bo, 0, none⟩), .pointer (some ⟨Bq, 0, none⟩)]] 94)).alloc (.cells #[.bool false] 4)) 3 (.int .i64 (a : Int))).alloc (.cells #[.int .i64 (b : Int)] 3)
  have bB := Boxed.new (((w.alloc (.cells #[.func (.func 66) #[] #[.pointer (some ⟨Bp, 0, none⟩), .pointer (some ⟨Bo, 0, none⟩), .pointer (some ⟨Bq, 0, none⟩)]] 94)).alloc (.cells #[.bool false] 4)).alloc (.cells #[.int .i64 (a : Int)] 3)) 3 (.int .i64 (b : Int))
  simp only [World.size_alloc] at bR bA bB
  have hB0 := (((((Below.refl w.heap.size w).alloc (Nat.le_refl _) (.cells #[.func (.func 66) #[] #[.pointer (some ⟨Bp, 0, none⟩), .pointer (some ⟨Bo, 0, none⟩), .pointer (some ⟨Bq, 0, none⟩)]] 94)).alloc (by simp) (.cells #[.bool false] 4)).alloc (by simp; omega) (.cells #[.int .i64 (a : Int)] 3)).alloc (by simp; omega) (.cells #[.int .i64 (b : Int)] 3))
  have hsz : ((((w.alloc (.cells #[.func (.func 66) #[] #[.pointer (some ⟨Bp, 0, none⟩), .pointer (some ⟨Bo, 0, none⟩), .pointer (some ⟨Bq, 0, none⟩)]] 94)).alloc (.cells #[.bool false] 4)).alloc (.cells #[.int .i64 (a : Int)] 3)).alloc (.cells #[.int .i64 (b : Int)] 3)).heap.size = w.heap.size + 4 := by simp
  obtain ⟨W0, hW0⟩ : ∃ W0, (((w.alloc (.cells #[.func (.func 66) #[] #[.pointer (some ⟨Bp, 0, none⟩), .pointer (some ⟨Bo, 0, none⟩), .pointer (some ⟨Bq, 0, none⟩)]] 94)).alloc (.cells #[.bool false] 4)).alloc (.cells #[.int .i64 (a : Int)] 3)).alloc (.cells #[.int .i64 (b : Int)] 3) = W0 := ⟨_, rfl⟩
  rw [hW0] at bI bR bA bB hB0 hsz ⊢
  clear hW0
  refine wpIn_rangeFunc_ownG rfl (by decide) (gf := 110) (lb := #[.pointer (some ⟨w.heap.size + 1 + 1, 0, none⟩), .pointer (some ⟨w.heap.size + 1 + 1 + 1, 0, none⟩)]) rfl trivial (enters_of Tryd.func110 (by kernel_rfl) rfl)
    (from1_stops _ (w.heap.size + 1 + 1) (w.heap.size + 1 + 1 + 1) W0.heap.size a b ha hb W0 (by omega) (by omega) (Nat.le_refl _) bA.cell bB.cell) belowK_t (belowK_b (by omega)) (Below.refl _ _) (fun _ => rfl)
    (fun pre W => (∀ x ∈ pre, is x.val = true) ∧ Below W0.heap.size W0 W)
    (fun c pre W => ((c = .ret ∧ ∃ x ∈ pre, is x.val = false) ∧ Boxed W (w.heap.size + 1) 4 (.bool false)) ∧ Below w.heap.size w W)
    (OwnFrom.and (ownFrom_pure _ _) (ownFrom_below (Nat.le_refl _) (Nat.le_refl _)))
    (fun c => OwnFrom.and (OwnFrom.and (ownFrom_pure _ _) (Own.from (boxed_own _ _ _) _)) (ownFrom_below (Nat.le_refl _) (by omega)))
    ⟨by simp, Below.refl _ _⟩
    (fun x => { tmps := #[.int .i64 (a : Int), .int .i64 (b : Int), .func (.func 66) #[] #[.pointer (some ⟨Bp, 0, none⟩), .pointer (some ⟨Bo, 0, none⟩), .pointer (some ⟨Bq, 0, none⟩)], undef, undef, .pointer (some ⟨w.heap.size, 0, none⟩), .pointer (some ⟨w.heap.size + 1, 0, none⟩), .int .i64 ((x.val : Nat) : Int), .int .i64 (a : Int), .int .i64 (b : Int), .func (.func 110) #[] #[.pointer (some ⟨w.heap.size + 1 + 1, 0, none⟩), .pointer (some ⟨w.heap.size + 1 + 1 + 1, 0, none⟩)], .int .i64 ((x.val : Nat) : Int), undef, undef, undef, undef], defers := [] })
    ?assign ?body ?done ?stop
  case assign =>
    intro l x W K hK
    gi_wp2
    exact hK
  case body =>
    rintro l pre x W ⟨hall, hBW⟩ hlt
    have hzW := hBW.size
    have hB1 : Below w.heap.size w W := hB0.trans (hBW.mono (by omega))
    have bI1 : Boxed W w.heap.size _ _ := (hBW.block _ bI.lt).trans bI
    have bR1 : Boxed W (w.heap.size + 1) _ _ := (hBW.block _ bR.lt).trans bR
    have cI := bI1.cell
    have cR := bR1.cell
    have fR := bR1.frozen
    have hx := x.isLt
    have Hx := Lib.hid (Hok.out x.val hx W hB1)
    gi_wp2
    refine ⟨trivial, (CallsIn.inRound l (callsIn_wide.2 Hx.out)).mono ?_⟩
    rintro e W2 ⟨rfl, hb2⟩
    have hb3 : Below W0.heap.size W W2 := hb2.mono hzW
    have bR2 : Boxed W2 (w.heap.size + 1) _ _ := (hb2.block _ bR1.lt).trans bR1
    have cR2 := bR2.cell
    have fR2 := bR2.frozen
    have hB2 : Below w.heap.size w W2 := below_next hB1 hb2
    cases hi : is x.val
    · gi_wp2
      exact ⟨(K.KeepsFrom.of_below hb2).trans ((KeepsOthers.setCell _ _ _).from _), ⟨⟨rfl, x, by simp, hi⟩, bR2.set _⟩, hB2.setCell (p := ⟨w.heap.size + 1, 0, none⟩) (by simp) _⟩
    · gi_wp2
      refine ⟨K.KeepsFrom.of_below hb2, hb3, fun y hy => ?_, hBW.trans hb3⟩
      rcases List.mem_append.1 hy with h | h
      · exact hall y h
      · rw [List.mem_singleton.1 h]; exact hi
  case done =>
    rintro D ys W hD rfl ⟨hall, hBW⟩ hK
    have hzW := hBW.size
    have hB1 : Below w.heap.size w W := hB0.trans (hBW.mono (by omega))
    have bR1 : Boxed W (w.heap.size + 1) _ _ := (hBW.block _ bR.lt).trans bR
    have cR := bR1.cell
    have fR := bR1.frozen
    gi_wp2
    have hK' := (KeepsOthers.setCell W ⟨w.heap.size + 1, 0, none⟩ (.bool true)).same D _ hK rfl
    refine ⟨by simp, .inl ⟨_, _, rfl, run_takeDeferred hK', ?_⟩⟩
    have hc5 := cell_kept (bR1.set (.bool true)).cell (grownBy_putObj' _ D (.deferred none)) (fun r e => by cases e; exact ⟨_, hK', rfl⟩)
    refine ⟨.bool true, ?_, ?_, (hB1.setCell (p := ⟨w.heap.size + 1, 0, none⟩) (by simp) _).trans (belowK_b (w := w) (Nat.le_refl _) _ D _ _ (by omega) hK' rfl rfl)⟩
    · simp [results, Tryd.results68, go_sem, hc5]
    · have : ((T.seg a b).all fun x => is x.val) = true := by
        rw [List.all_eq_true]; exact hall
      rw [this]
  case stop =>
    rintro D c pre W hD hpre ⟨⟨⟨rfl, x, hx, hi⟩, bR1⟩, hB1⟩ hK
    gi_wp2
    refine ⟨by simp, .inl ⟨_, _, rfl, run_takeDeferred hK, ?_⟩⟩
    have hc5 := cell_kept bR1.cell (grownBy_putObj' _ D (.deferred none)) (fun r e => by cases e; exact ⟨_, hK, rfl⟩)
    refine ⟨.bool false, ?_, ?_, hB1.trans (belowK_b (w := w) (Nat.le_refl _) W D _ _ (by omega) hK rfl rfl)⟩
    · simp [results, Tryd.results68, go_sem, hc5]
    · have : ((T.seg a b).all fun x => is x.val) = false := by
        rw [List.all_eq_false]; exact ⟨x, hpre.subset hx, by rw [hi]; simp⟩
      rw [this]

end Go.Proofs.YtnkkhdcjbjiimaaDoor
