/- The laws of layer 27: OrderNothing. -/
import Derived.Test.YtdcmjbebkmicaaaOrdW
namespace Go.Proofs.Ytdcmjbebkmicaaa
open Go.RowKit Go.Sort Go.Lib

/-- What is shown once, of three things that are named later. -/
theorem cutK {α β γ : Type} {F G : α → β → γ → Prop} {R : Prop} (h : ∀ a b c, F a b c → G a b c) (k : (∀ a b c, F a b c → G a b c) → R) : R := k h
theorem RowAt.mv {w : World} {g : Nat} {T : TypeId} {f t p d : Int} {ca : Bool} (h : RowAt w g T #[.int .i8 f, .int .i8 t, .int .u8 p, .int .u8 d, .bool ca]) : w.cell? ⟨g, 0, none⟩ = some (.int .i8 f) ∧ w.cell? ⟨g, 1, none⟩ = some (.int .i8 t) ∧ w.cell? ⟨g, 2, none⟩ = some (.int .u8 p) ∧ w.cell? ⟨g, 3, none⟩ = some (.int .u8 d) ∧ w.cell? ⟨g, 4, none⟩ = some (.bool ca) :=
  ⟨h.cell 0, h.cell 1, h.cell 2, h.cell 3, h.cell 4⟩
theorem wp_load_row_g {P : Program} {ops : Array Oper} {rest : List Oper} {o : Oper} {a : Act} {w : World} {Q : Exit → Act → World → Prop} (hw : Region.wanted o (yielded ops a.tmps) = true) (ty : TypeId) (x : Operand) (ho : o.op = .load ty x) {d : TypeDesc} (hu : P.underlying ty = some d) (hd : (match d with | .struct _ | .array _ _ => true | _ => false) = true)
    (h : ∃ (g : Nat) (T : TypeId) (cs : Array Value), a.eval x = .pointer (some ⟨g, 0, none⟩) ∧ RowAt w g T cs ∧ (P.info? ty).map (·.size) = some cs.size ∧ wpList P ops Q rest (a.put o.dst (.agg cs)) w) : wpList P ops Q (o :: rest) a w := by
  obtain ⟨g, T, cs, hx, hp, hi, h⟩ := h
  refine wpList_step fun K hK => ?_
  rw [if_pos hw]
  exact wp_load_row ty x ho g hx T cs (0, 0) d hp.heap hu hd hi (hK _ _ h)
theorem Try.size_boolO : (Try.prog.info? 4).map (·.size) = some 1 := by kernel_rfl
namespace O
theorem taken_drop (c : Nat → Int) (f t p d : Int) (ca : Bool) (h : d ≠ 0) : taken c (f, t, p, d, ca) = 0 := by
  unfold taken; rw [if_pos (by simp [h])]
theorem taken_castle (c : Nat → Int) (f t p d : Int) : taken c (f, t, p, d, true) = 0 := by
  unfold taken; rw [if_pos (by simp)]
theorem taken_out (c : Nat → Int) (f t p d : Int) (ca : Bool) (h : f < 0 ∨ 63 < f ∨ t < 0 ∨ 63 < t) : taken c (f, t, p, d, ca) = 0 := by
  unfold taken sq
  rw [if_pos]
  simp only [Bool.or_eq_true, Bool.not_eq_true', Bool.and_eq_false_iff, decide_eq_false_iff_not]
  rcases h with h | h | h | h
  · exact .inl (.inl (.inr (.inl (by omega))))
  · exact .inl (.inl (.inr (.inr (by omega))))
  · exact .inl (.inr (.inl (by omega)))
  · exact .inl (.inr (.inr (by omega)))
theorem moving_out (c : Nat → Int) (f t p : Int) (ca : Bool) (h : f < 0 ∨ 63 < f) : moving c (f, t, p, 0, ca) = 0 := by
  have : sq f = false := by
    unfold sq
    simp only [Bool.and_eq_false_iff, decide_eq_false_iff_not]
    omega
  unfold moving on
  rw [if_neg (by simp), this]; rfl
end O

set_option maxRecDepth 100000 in
set_option maxHeartbeats 4000000 in
theorem orderNothing_walk (c : Nat → Int) (f t p d : Int) (ca : Bool) (w : World) (hc : PosOk c) (_ : O.MvOk (f, t, p, d, ca)) :
    Calls Try.prog 6 #[.agg (posC c), .agg #[.int .i8 f, .int .i8 t, .int .u8 p, .int .u8 d, .bool ca]] w fun e w' => e = .returned (.bool true) ∧ Below w.heap.size w w' := by
  obtain ⟨W0, hW0⟩ : ∃ W0, ((w.alloc (.cells (posC c) 31)).alloc (.cells #[.int .i8 f, .int .i8 t, .int .u8 p, .int .u8 d, .bool ca] 33)) = W0 := ⟨_, rfl⟩
  have hS0 : PosAt W0 w.heap.size c ∧ RowAt W0 (w.heap.size + 1) 33 #[.int .i8 f, .int .i8 t, .int .u8 p, .int .u8 d, .bool ca] ∧ Below w.heap.size w W0 := by
    rw [← hW0]
    refine ⟨(PosAt.new w c).alloc _, ?_, ((Grows.alloc _ _).trans (Grows.alloc _ _)).below⟩
    have := RowAt.new (w.alloc (.cells (posC c) 31)) #[.int .i8 f, .int .i8 t, .int .u8 p, .int .u8 d, .bool ca] 33
    rwa [show (w.alloc (.cells (posC c) 31)).heap.size = w.heap.size + 1 by show (w.heap.push _).size = _; simp] at this
  have HC := Lib.hid hc
  clear hc
  go_enter Try.func6, Try.ntmps6
  go_wp2_with fail
  clear hW0
  refine (awake27_any _).mono ?_
  rintro e w1 ⟨rfl, hb⟩
  have hS1 : PosAt w1 w.heap.size c ∧ RowAt w1 (w.heap.size + 1) 33 #[.int .i8 f, .int .i8 t, .int .u8 p, .int .u8 d, .bool ca] ∧ Below w.heap.size w w1 := ⟨hS0.1.below hb, hS0.2.1.below hb, below_next hS0.2.2 hb⟩
  clear hS0 hb
  go_wp2_with fail
  refine wp_region_held (S := (fun W => PosAt W w.heap.size c ∧ RowAt W (w.heap.size + 1) 33 #[.int .i8 f, .int .i8 t, .int .u8 p, .int .u8 d, .bool ca] ∧ Below w.heap.size w W)) (by kernel_rfl) ?_
  have hSd : PosAt w1.drew w.heap.size c ∧ RowAt w1.drew (w.heap.size + 1) 33 #[.int .i8 f, .int .i8 t, .int .u8 p, .int .u8 d, .bool ca] ∧ Below w.heap.size w w1.drew := ⟨⟨hS1.1.heap⟩, ⟨hS1.2.1.heap⟩, M.below_drew hS1.2.2 1⟩
  change wpAnyH _ _ _ _ _ _ _ _ w1.drew
  clear hS1
  generalize w1.drew = w2 at hSd ⊢
  refine takeD 0 (some 10) (.agg #[.int .i8 f, .int .i8 t, .int .u8 p, .int .u8 d, .bool ca]) (by kernel_rfl) (by kernel_rfl) (by kernel_rfl) (by kernel_rfl) (by kernel_rfl) (fun _ _ _ h => h) (yi_load_mv (by kernel_rfl) (.tmp 3) (by kernel_rfl) (w.heap.size + 1) 33 _ (by kernel_rfl) rfl (fun _ h => h.2.1)) hSd ?_
  simp only [Act.put, List.setIfInBounds_toArray, List.set_cons_succ, List.set_cons_zero]
  refine takeD 1 (some 11) (.agg #[.int .i8 f, .int .i8 t, .int .u8 p, .int .u8 d, .bool ca]) (by kernel_rfl) (by kernel_rfl) (by kernel_rfl) (by kernel_rfl) (by kernel_rfl) (fun _ _ _ h => h) (yi_load_mv (by kernel_rfl) (.tmp 3) (by kernel_rfl) (w.heap.size + 1) 33 _ (by kernel_rfl) rfl (fun _ h => h.2.1)) hSd ?_
  simp only [Act.put, List.setIfInBounds_toArray, List.set_cons_succ, List.set_cons_zero]
  refine cutK (F := fun bq bn W => bq ≠ bn ∧ w.heap.size + 1 < bq ∧ w.heap.size + 1 < bn ∧ (PosAt W w.heap.size c ∧ RowAt W (w.heap.size + 1) 33 #[.int .i8 f, .int .i8 t, .int .u8 p, .int .u8 d, .bool ca] ∧ Below w.heap.size w W) ∧ RowAt W bq 33 #[.int .i8 f, .int .i8 t, .int .u8 p, .int .u8 d, .bool ca] ∧ RowAt W bn 33 #[.int .i8 f, .int .i8 t, .int .u8 p, .int .u8 d, .bool ca]) (G := ?G) ?rest ?main
  case main =>
    intro key
    have hlt := hSd.2.1.lt
    have HS1 : Hid (PosAt (w2.alloc (.cells #[.int .i8 0, .int .i8 0, .int .u8 0, .int .u8 0, .bool false] 33)) w.heap.size c ∧ RowAt (w2.alloc (.cells #[.int .i8 0, .int .i8 0, .int .u8 0, .int .u8 0, .bool false] 33)) (w.heap.size + 1) 33 #[.int .i8 f, .int .i8 t, .int .u8 p, .int .u8 d, .bool ca] ∧ Below w.heap.size w (w2.alloc (.cells #[.int .i8 0, .int .i8 0, .int .u8 0, .int .u8 0, .bool false] 33))) := Lib.hid ⟨hSd.1.alloc _, hSd.2.1.alloc _, hSd.2.2.alloc hSd.2.2.size _⟩
    have HS2 : Hid (PosAt ((w2.alloc (.cells #[.int .i8 0, .int .i8 0, .int .u8 0, .int .u8 0, .bool false] 33)).alloc (.cells #[.int .i8 0, .int .i8 0, .int .u8 0, .int .u8 0, .bool false] 33)) w.heap.size c ∧ RowAt ((w2.alloc (.cells #[.int .i8 0, .int .i8 0, .int .u8 0, .int .u8 0, .bool false] 33)).alloc (.cells #[.int .i8 0, .int .i8 0, .int .u8 0, .int .u8 0, .bool false] 33)) (w.heap.size + 1) 33 #[.int .i8 f, .int .i8 t, .int .u8 p, .int .u8 d, .bool ca] ∧ Below w.heap.size w ((w2.alloc (.cells #[.int .i8 0, .int .i8 0, .int .u8 0, .int .u8 0, .bool false] 33)).alloc (.cells #[.int .i8 0, .int .i8 0, .int .u8 0, .int .u8 0, .bool false] 33))) := Lib.hid ⟨HS1.out.1.alloc _, HS1.out.2.1.alloc _, HS1.out.2.2.alloc HS1.out.2.2.size _⟩
    have hA : RowAt ((w2.alloc (.cells #[.int .i8 0, .int .i8 0, .int .u8 0, .int .u8 0, .bool false] 33)).alloc (.cells #[.int .i8 0, .int .i8 0, .int .u8 0, .int .u8 0, .bool false] 33)) w2.heap.size 33 #[.int .i8 0, .int .i8 0, .int .u8 0, .int .u8 0, .bool false] := (RowAt.new w2 _ _).alloc _
    have hB : RowAt ((w2.alloc (.cells #[.int .i8 0, .int .i8 0, .int .u8 0, .int .u8 0, .bool false] 33)).alloc (.cells #[.int .i8 0, .int .i8 0, .int .u8 0, .int .u8 0, .bool false] 33)) (w2.heap.size + 1) 33 #[.int .i8 0, .int .i8 0, .int .u8 0, .int .u8 0, .bool false] := by
      have := RowAt.new (w2.alloc (.cells #[.int .i8 0, .int .i8 0, .int .u8 0, .int .u8 0, .bool false] 33)) #[.int .i8 0, .int .i8 0, .int .u8 0, .int .u8 0, .bool false] 33
      rwa [World.size_alloc] at this
    refine wpAnyH_all (rs := [2, 3]) (by kernel_rfl) (by simp) (fun i hi => ?_)
    obtain rfl | rfl : i = 2 ∨ i = 3 := by simpa using hi
    · clear hi
      refine wpOp_atO rfl rfl ?_
      unfold Oper.wp
      go_simp
      refine ⟨HS1.out, ?_⟩
      refine wpAnyH_all (rs := [3]) (by kernel_rfl) (by simp) (fun q hq => ?_)
      obtain rfl : q = 3 := by simpa using hq
      clear hq
      refine wpOp_atO rfl rfl ?_
      unfold Oper.wp
      go_simp
      refine ⟨HS2.out, ?_⟩
      have hS2 := HS2.out
      clear HS1 HS2
      obtain ⟨bq, hbq⟩ : ∃ bq, w2.heap.size = bq := ⟨_, rfl⟩
      obtain ⟨bn, hbn⟩ : ∃ bn, w2.heap.size + 1 = bn := ⟨_, rfl⟩
      have hne : bq ≠ bn := by omega
      have hbq1 : w.heap.size + 1 < bq := by omega
      have hbn1 : w.heap.size + 1 < bn := by omega
      have hQ : RowAt ((w2.alloc (.cells #[.int .i8 0, .int .i8 0, .int .u8 0, .int .u8 0, .bool false] 33)).alloc (.cells #[.int .i8 0, .int .i8 0, .int .u8 0, .int .u8 0, .bool false] 33)) bq 33 #[.int .i8 0, .int .i8 0, .int .u8 0, .int .u8 0, .bool false] := by rw [← hbq]; exact hA
      have hN : RowAt ((w2.alloc (.cells #[.int .i8 0, .int .i8 0, .int .u8 0, .int .u8 0, .bool false] 33)).alloc (.cells #[.int .i8 0, .int .i8 0, .int .u8 0, .int .u8 0, .bool false] 33)) bn 33 #[.int .i8 0, .int .i8 0, .int .u8 0, .int .u8 0, .bool false] := by rw [← hbn]; exact hB
      rw [hbn, hbq]
      clear hbq hbn hA hB hlt
      revert hS2 hQ hN
      generalize ((w2.alloc (.cells #[.int .i8 0, .int .i8 0, .int .u8 0, .int .u8 0, .bool false] 33)).alloc (.cells #[.int .i8 0, .int .i8 0, .int .u8 0, .int .u8 0, .bool false] 33)) = w3
      intro hS2 hQ hN
      refine takeOne 4 (by kernel_rfl) (by kernel_rfl) (by kernel_rfl) ?_
      refine wp_store_row 33 (.tmp 5) (.tmp 10) (by kernel_rfl) bq #[.int .i8 f, .int .i8 t, .int .u8 p, .int .u8 d, .bool ca] (by kernel_rfl) (by kernel_rfl) _ _ hQ.heap (Try.info_mv _ rfl) rfl (by simp [Value.oneCell']) ?_
      have hV := put_setRow w3 bq #[.int .i8 f, .int .i8 t, .int .u8 p, .int .u8 d, .bool ca]
      have hnew : RowAt (w3.setRow bq #[.int .i8 f, .int .i8 t, .int .u8 p, .int .u8 d, .bool ca]) bq 33 #[.int .i8 f, .int .i8 t, .int .u8 p, .int .u8 d, .bool ca] := ⟨setRow_heap _ _ _ _ _ _ hQ.heap⟩
      have hS3 : PosAt (w3.setRow bq #[.int .i8 f, .int .i8 t, .int .u8 p, .int .u8 d, .bool ca]) w.heap.size c ∧ RowAt (w3.setRow bq #[.int .i8 f, .int .i8 t, .int .u8 p, .int .u8 d, .bool ca]) (w.heap.size + 1) 33 #[.int .i8 f, .int .i8 t, .int .u8 p, .int .u8 d, .bool ca] ∧ Below w.heap.size w (w3.setRow bq #[.int .i8 f, .int .i8 t, .int .u8 p, .int .u8 d, .bool ca]) := ⟨hV.pos hS2.1 (by omega), hV.row hS2.2.1 (by omega), hV.below hS2.2.2 (by omega)⟩
      have hN3 := hV.row hN (Ne.symm hne)
      refine ⟨hS3, ?_⟩
      have hall := And.intro hS3 (And.intro hnew hN3)
      clear hV hS2 hQ hN hS3 hnew hN3
      revert hall
      generalize w3.setRow bq #[.int .i8 f, .int .i8 t, .int .u8 p, .int .u8 d, .bool ca] = w4
      rintro ⟨hS3, hq, hN3⟩
      refine takeOne 5 (by kernel_rfl) (by kernel_rfl) (by kernel_rfl) ?_
      refine wp_store_row 33 (.tmp 6) (.tmp 11) (by kernel_rfl) bn #[.int .i8 f, .int .i8 t, .int .u8 p, .int .u8 d, .bool ca] (by kernel_rfl) (by kernel_rfl) _ _ hN3.heap (Try.info_mv _ rfl) rfl (by simp [Value.oneCell']) ?_
      have hV := put_setRow w4 bn #[.int .i8 f, .int .i8 t, .int .u8 p, .int .u8 d, .bool ca]
      have hnew : RowAt (w4.setRow bn #[.int .i8 f, .int .i8 t, .int .u8 p, .int .u8 d, .bool ca]) bn 33 #[.int .i8 f, .int .i8 t, .int .u8 p, .int .u8 d, .bool ca] := ⟨setRow_heap _ _ _ _ _ _ hN3.heap⟩
      have hS4 : PosAt (w4.setRow bn #[.int .i8 f, .int .i8 t, .int .u8 p, .int .u8 d, .bool ca]) w.heap.size c ∧ RowAt (w4.setRow bn #[.int .i8 f, .int .i8 t, .int .u8 p, .int .u8 d, .bool ca]) (w.heap.size + 1) 33 #[.int .i8 f, .int .i8 t, .int .u8 p, .int .u8 d, .bool ca] ∧ Below w.heap.size w (w4.setRow bn #[.int .i8 f, .int .i8 t, .int .u8 p, .int .u8 d, .bool ca]) := ⟨hV.pos hS3.1 (by omega), hV.row hS3.2.1 (by omega), hV.below hS3.2.2 (by omega)⟩
      replace hq := hV.row hq hne
      refine ⟨hS4, ?_⟩
      have hall := And.intro hS4 (And.intro hq hnew)
      clear hV hS3 hN3 hS4 hnew hq
      revert hall
      generalize w4.setRow bn #[.int .i8 f, .int .i8 t, .int .u8 p, .int .u8 d, .bool ca] = w5
      rintro ⟨hS4, hq, hn⟩
      refine wpAnyH_done (by kernel_rfl) ?_ _
      exact key bq bn w5 ⟨hne, hbq1, hbn1, hS4, hq, hn⟩
    · clear hi
      refine wpOp_atO rfl rfl ?_
      unfold Oper.wp
      go_simp
      refine ⟨HS1.out, ?_⟩
      refine wpAnyH_all (rs := [2]) (by kernel_rfl) (by simp) (fun q hq => ?_)
      obtain rfl : q = 2 := by simpa using hq
      clear hq
      refine wpOp_atO rfl rfl ?_
      unfold Oper.wp
      go_simp
      refine ⟨HS2.out, ?_⟩
      have hS2 := HS2.out
      clear HS1 HS2
      obtain ⟨bq, hbq⟩ : ∃ bq, w2.heap.size + 1 = bq := ⟨_, rfl⟩
      obtain ⟨bn, hbn⟩ : ∃ bn, w2.heap.size = bn := ⟨_, rfl⟩
      have hne : bq ≠ bn := by omega
      have hbq1 : w.heap.size + 1 < bq := by omega
      have hbn1 : w.heap.size + 1 < bn := by omega
      have hQ : RowAt ((w2.alloc (.cells #[.int .i8 0, .int .i8 0, .int .u8 0, .int .u8 0, .bool false] 33)).alloc (.cells #[.int .i8 0, .int .i8 0, .int .u8 0, .int .u8 0, .bool false] 33)) bq 33 #[.int .i8 0, .int .i8 0, .int .u8 0, .int .u8 0, .bool false] := by rw [← hbq]; exact hB
      have hN : RowAt ((w2.alloc (.cells #[.int .i8 0, .int .i8 0, .int .u8 0, .int .u8 0, .bool false] 33)).alloc (.cells #[.int .i8 0, .int .i8 0, .int .u8 0, .int .u8 0, .bool false] 33)) bn 33 #[.int .i8 0, .int .i8 0, .int .u8 0, .int .u8 0, .bool false] := by rw [← hbn]; exact hA
      rw [hbq, hbn]
      clear hbq hbn hA hB hlt
      revert hS2 hQ hN
      generalize ((w2.alloc (.cells #[.int .i8 0, .int .i8 0, .int .u8 0, .int .u8 0, .bool false] 33)).alloc (.cells #[.int .i8 0, .int .i8 0, .int .u8 0, .int .u8 0, .bool false] 33)) = w3
      intro hS2 hQ hN
      refine takeOne 4 (by kernel_rfl) (by kernel_rfl) (by kernel_rfl) ?_
      refine wp_store_row 33 (.tmp 5) (.tmp 10) (by kernel_rfl) bq #[.int .i8 f, .int .i8 t, .int .u8 p, .int .u8 d, .bool ca] (by kernel_rfl) (by kernel_rfl) _ _ hQ.heap (Try.info_mv _ rfl) rfl (by simp [Value.oneCell']) ?_
      have hV := put_setRow w3 bq #[.int .i8 f, .int .i8 t, .int .u8 p, .int .u8 d, .bool ca]
      have hnew : RowAt (w3.setRow bq #[.int .i8 f, .int .i8 t, .int .u8 p, .int .u8 d, .bool ca]) bq 33 #[.int .i8 f, .int .i8 t, .int .u8 p, .int .u8 d, .bool ca] := ⟨setRow_heap _ _ _ _ _ _ hQ.heap⟩
      have hS3 : PosAt (w3.setRow bq #[.int .i8 f, .int .i8 t, .int .u8 p, .int .u8 d, .bool ca]) w.heap.size c ∧ RowAt (w3.setRow bq #[.int .i8 f, .int .i8 t, .int .u8 p, .int .u8 d, .bool ca]) (w.heap.size + 1) 33 #[.int .i8 f, .int .i8 t, .int .u8 p, .int .u8 d, .bool ca] ∧ Below w.heap.size w (w3.setRow bq #[.int .i8 f, .int .i8 t, .int .u8 p, .int .u8 d, .bool ca]) := ⟨hV.pos hS2.1 (by omega), hV.row hS2.2.1 (by omega), hV.below hS2.2.2 (by omega)⟩
      have hN3 := hV.row hN (Ne.symm hne)
      refine ⟨hS3, ?_⟩
      have hall := And.intro hS3 (And.intro hnew hN3)
      clear hV hS2 hQ hN hS3 hnew hN3
      revert hall
      generalize w3.setRow bq #[.int .i8 f, .int .i8 t, .int .u8 p, .int .u8 d, .bool ca] = w4
      rintro ⟨hS3, hq, hN3⟩
      refine takeOne 5 (by kernel_rfl) (by kernel_rfl) (by kernel_rfl) ?_
      refine wp_store_row 33 (.tmp 6) (.tmp 11) (by kernel_rfl) bn #[.int .i8 f, .int .i8 t, .int .u8 p, .int .u8 d, .bool ca] (by kernel_rfl) (by kernel_rfl) _ _ hN3.heap (Try.info_mv _ rfl) rfl (by simp [Value.oneCell']) ?_
      have hV := put_setRow w4 bn #[.int .i8 f, .int .i8 t, .int .u8 p, .int .u8 d, .bool ca]
      have hnew : RowAt (w4.setRow bn #[.int .i8 f, .int .i8 t, .int .u8 p, .int .u8 d, .bool ca]) bn 33 #[.int .i8 f, .int .i8 t, .int .u8 p, .int .u8 d, .bool ca] := ⟨setRow_heap _ _ _ _ _ _ hN3.heap⟩
      have hS4 : PosAt (w4.setRow bn #[.int .i8 f, .int .i8 t, .int .u8 p, .int .u8 d, .bool ca]) w.heap.size c ∧ RowAt (w4.setRow bn #[.int .i8 f, .int .i8 t, .int .u8 p, .int .u8 d, .bool ca]) (w.heap.size + 1) 33 #[.int .i8 f, .int .i8 t, .int .u8 p, .int .u8 d, .bool ca] ∧ Below w.heap.size w (w4.setRow bn #[.int .i8 f, .int .i8 t, .int .u8 p, .int .u8 d, .bool ca]) := ⟨hV.pos hS3.1 (by omega), hV.row hS3.2.1 (by omega), hV.below hS3.2.2 (by omega)⟩
      replace hq := hV.row hq hne
      refine ⟨hS4, ?_⟩
      have hall := And.intro hS4 (And.intro hq hnew)
      clear hV hS3 hN3 hS4 hnew hq
      revert hall
      generalize w4.setRow bn #[.int .i8 f, .int .i8 t, .int .u8 p, .int .u8 d, .bool ca] = w5
      rintro ⟨hS4, hq, hn⟩
      refine wpAnyH_done (by kernel_rfl) ?_ _
      exact key bq bn w5 ⟨hne, hbq1, hbn1, hS4, hq, hn⟩
  case rest =>
    rintro bq bn W ⟨hne, hbq1, hbn1, ⟨hp, hm, hb0⟩, hq, hn⟩
    have KTd := Lib.hid (fun W => O.taken_row c f t p 3 ca 0 W HC.out (O.taken_drop c f t p 3 ca (by decide)))
    have KTc := Lib.hid (fun W => O.taken_row c f t p d true 0 W HC.out (O.taken_castle c f t p d))
    have KMd := Lib.hid (fun W => O.moving_row c f t p 3 ca 3 W HC.out rfl)
    have m0 := hm.mv.1
    have m1 := hm.mv.2.1
    have m3 := hm.mv.2.2.2.1
    have hcase : (f < 0) ∨ (63 < f) ∨ ((0 ≤ f ∧ f ≤ 63) ∧ t < 0) ∨ ((0 ≤ f ∧ f ≤ 63) ∧ 63 < t) ∨ ((0 ≤ f ∧ f ≤ 63) ∧ 0 ≤ t ∧ t ≤ 63) := by omega
    rcases hcase with h | h | h | h | h
    · have KTm := Lib.hid (fun W => O.taken_row c f t p d ca 0 W HC.out (O.taken_out c f t p d ca (.inl h)))
      have hmo : f < 0 ∨ 63 < f := by omega
      have hf1 : f < 0 := by exact h
      have hf2 : ¬ 0 ≤ f := by omega
      clear h
      by_cases hd : d = 0
      · subst hd
        have KMm := Lib.hid (fun W => O.moving_row c f t p 0 ca 0 W HC.out (O.moving_out c f t p ca hmo))
        clear hmo
        go_wp2_with (first
          | ((with_reducible refine wp_store_at rfl 5 _ _ rfl ?_); refine ⟨_, _, _, _, (.int .u8 3), rfl, rfl, rfl, hq, (by simp), Try.size_u8, ?_⟩; intro V hV h2; simp only [List.setIfInBounds_toArray, List.set_cons_zero, List.set_cons_succ] at h2; replace hn := hV.row hn (Ne.symm hne); have hp2 := hV.pos hp (by omega); have hm2 := hV.row hm (by omega); replace hb0 := hV.below hb0 (by omega); clear hV hq hp hm m0 m1 m3; have hq := h2; have hp := hp2; have hm := hm2; clear h2 hp2 hm2; have m0 := hm.mv.1; have m1 := hm.mv.2.1; have m3 := hm.mv.2.2.2.1)
          | ((with_reducible refine wp_store_at rfl 4 _ _ rfl ?_); refine ⟨_, _, _, _, (.bool true), rfl, rfl, rfl, hn, (by simp), Try.size_boolO, ?_⟩; intro V hV h2; simp only [List.setIfInBounds_toArray, List.set_cons_zero, List.set_cons_succ] at h2; replace hq := hV.row hq hne; have hp2 := hV.pos hp (by omega); have hm2 := hV.row hm (by omega); replace hb0 := hV.below hb0 (by omega); clear hV hn hp hm m0 m1 m3; have hn := h2; have hp := hp2; have hm := hm2; clear h2 hp2 hm2; have m0 := hm.mv.1; have m1 := hm.mv.2.1; have m3 := hm.mv.2.2.2.1)
          | ((with_reducible refine wp_load_box rfl _ rfl ?_); refine ⟨_, _, rfl, hp, ?_⟩)
          | ((with_reducible refine wp_load_box_g rfl _ rfl ?_); refine ⟨_, _, rfl, hp, ?_⟩)
          | ((with_reducible refine wp_load_row' rfl 33 _ rfl Try.underlying33 rfl ?_); refine ⟨_, _, _, rfl, hq, ?_, ?_⟩; exact Try.info_mv _ rfl)
          | ((with_reducible refine wp_load_row' rfl 33 _ rfl Try.underlying33 rfl ?_); refine ⟨_, _, _, rfl, hn, ?_, ?_⟩; exact Try.info_mv _ rfl)
          | ((with_reducible refine wp_load_row' rfl 33 _ rfl Try.underlying33 rfl ?_); refine ⟨_, _, _, rfl, hm, ?_, ?_⟩; exact Try.info_mv _ rfl)
          | ((with_reducible refine wp_load_row_g rfl 33 _ rfl Try.underlying33 rfl ?_); refine ⟨_, _, _, rfl, hq, ?_, ?_⟩; exact Try.info_mv _ rfl)
          | ((with_reducible refine wp_load_row_g rfl 33 _ rfl Try.underlying33 rfl ?_); refine ⟨_, _, _, rfl, hn, ?_, ?_⟩; exact Try.info_mv _ rfl)
          | ((with_reducible refine wp_load_row_g rfl 33 _ rfl Try.underlying33 rfl ?_); refine ⟨_, _, _, rfl, hm, ?_, ?_⟩; exact Try.info_mv _ rfl)
          | (go_at_call 14; (first | (with_reducible refine (KTd.out _).mono ?_) | (with_reducible refine (KTc.out _).mono ?_) | (with_reducible refine (KTm.out _).mono ?_)); rintro e w' ⟨rfl, hg⟩; have hb := hg.below; replace hp := hp.below hb; replace hm := hm.below hb; replace hq := hq.below hb; replace hn := hn.below hb; replace hb0 := below_next hb0 hb; clear hg hb m0 m1 m3; have m0 := hm.mv.1; have m1 := hm.mv.2.1; have m3 := hm.mv.2.2.2.1)
          | (go_at_call 15; (first | (with_reducible refine (KMd.out _).mono ?_) | (with_reducible refine (KMm.out _).mono ?_)); rintro e w' ⟨rfl, hg⟩; have hb := hg.below; replace hp := hp.below hb; replace hm := hm.below hb; replace hq := hq.below hb; replace hn := hn.below hb; replace hb0 := below_next hb0 hb; clear hg hb m0 m1 m3; have m0 := hm.mv.1; have m1 := hm.mv.2.1; have m3 := hm.mv.2.2.2.1)
          | fail)

        go_ret
        exact ⟨rfl, hb0⟩
      · clear hmo
        have hd2 : (d != 0) = true := by simpa using hd
        go_wp2_with (first
          | ((with_reducible refine wp_store_at rfl 5 _ _ rfl ?_); refine ⟨_, _, _, _, (.int .u8 3), rfl, rfl, rfl, hq, (by simp), Try.size_u8, ?_⟩; intro V hV h2; simp only [List.setIfInBounds_toArray, List.set_cons_zero, List.set_cons_succ] at h2; replace hn := hV.row hn (Ne.symm hne); have hp2 := hV.pos hp (by omega); have hm2 := hV.row hm (by omega); replace hb0 := hV.below hb0 (by omega); clear hV hq hp hm m0 m1 m3; have hq := h2; have hp := hp2; have hm := hm2; clear h2 hp2 hm2; have m0 := hm.mv.1; have m1 := hm.mv.2.1; have m3 := hm.mv.2.2.2.1)
          | ((with_reducible refine wp_store_at rfl 4 _ _ rfl ?_); refine ⟨_, _, _, _, (.bool true), rfl, rfl, rfl, hn, (by simp), Try.size_boolO, ?_⟩; intro V hV h2; simp only [List.setIfInBounds_toArray, List.set_cons_zero, List.set_cons_succ] at h2; replace hq := hV.row hq hne; have hp2 := hV.pos hp (by omega); have hm2 := hV.row hm (by omega); replace hb0 := hV.below hb0 (by omega); clear hV hn hp hm m0 m1 m3; have hn := h2; have hp := hp2; have hm := hm2; clear h2 hp2 hm2; have m0 := hm.mv.1; have m1 := hm.mv.2.1; have m3 := hm.mv.2.2.2.1)
          | ((with_reducible refine wp_load_box rfl _ rfl ?_); refine ⟨_, _, rfl, hp, ?_⟩)
          | ((with_reducible refine wp_load_box_g rfl _ rfl ?_); refine ⟨_, _, rfl, hp, ?_⟩)
          | ((with_reducible refine wp_load_row' rfl 33 _ rfl Try.underlying33 rfl ?_); refine ⟨_, _, _, rfl, hq, ?_, ?_⟩; exact Try.info_mv _ rfl)
          | ((with_reducible refine wp_load_row' rfl 33 _ rfl Try.underlying33 rfl ?_); refine ⟨_, _, _, rfl, hn, ?_, ?_⟩; exact Try.info_mv _ rfl)
          | ((with_reducible refine wp_load_row' rfl 33 _ rfl Try.underlying33 rfl ?_); refine ⟨_, _, _, rfl, hm, ?_, ?_⟩; exact Try.info_mv _ rfl)
          | ((with_reducible refine wp_load_row_g rfl 33 _ rfl Try.underlying33 rfl ?_); refine ⟨_, _, _, rfl, hq, ?_, ?_⟩; exact Try.info_mv _ rfl)
          | ((with_reducible refine wp_load_row_g rfl 33 _ rfl Try.underlying33 rfl ?_); refine ⟨_, _, _, rfl, hn, ?_, ?_⟩; exact Try.info_mv _ rfl)
          | ((with_reducible refine wp_load_row_g rfl 33 _ rfl Try.underlying33 rfl ?_); refine ⟨_, _, _, rfl, hm, ?_, ?_⟩; exact Try.info_mv _ rfl)
          | (go_at_call 14; (first | (with_reducible refine (KTd.out _).mono ?_) | (with_reducible refine (KTc.out _).mono ?_) | (with_reducible refine (KTm.out _).mono ?_)); rintro e w' ⟨rfl, hg⟩; have hb := hg.below; replace hp := hp.below hb; replace hm := hm.below hb; replace hq := hq.below hb; replace hn := hn.below hb; replace hb0 := below_next hb0 hb; clear hg hb m0 m1 m3; have m0 := hm.mv.1; have m1 := hm.mv.2.1; have m3 := hm.mv.2.2.2.1)
          | (go_at_call 15; (first | (with_reducible refine (KMd.out _).mono ?_) | (with_reducible refine (KMm.out _).mono ?_)); rintro e w' ⟨rfl, hg⟩; have hb := hg.below; replace hp := hp.below hb; replace hm := hm.below hb; replace hq := hq.below hb; replace hn := hn.below hb; replace hb0 := below_next hb0 hb; clear hg hb m0 m1 m3; have m0 := hm.mv.1; have m1 := hm.mv.2.1; have m3 := hm.mv.2.2.2.1)
          | fail)

        go_ret
        exact ⟨rfl, hb0⟩
    · have KTm := Lib.hid (fun W => O.taken_row c f t p d ca 0 W HC.out (O.taken_out c f t p d ca (.inr (.inl h))))
      have hmo : f < 0 ∨ 63 < f := by omega
      have hf1 : ¬ f < 0 := by omega
      have hf2 : 0 ≤ f := by omega
      have hf3 : 63 < f := h
      have hf4 : decide (f ≤ 63) = false := by simp; omega
      clear h
      by_cases hd : d = 0
      · subst hd
        have KMm := Lib.hid (fun W => O.moving_row c f t p 0 ca 0 W HC.out (O.moving_out c f t p ca hmo))
        clear hmo
        go_wp2_with (first
          | ((with_reducible refine wp_store_at rfl 5 _ _ rfl ?_); refine ⟨_, _, _, _, (.int .u8 3), rfl, rfl, rfl, hq, (by simp), Try.size_u8, ?_⟩; intro V hV h2; simp only [List.setIfInBounds_toArray, List.set_cons_zero, List.set_cons_succ] at h2; replace hn := hV.row hn (Ne.symm hne); have hp2 := hV.pos hp (by omega); have hm2 := hV.row hm (by omega); replace hb0 := hV.below hb0 (by omega); clear hV hq hp hm m0 m1 m3; have hq := h2; have hp := hp2; have hm := hm2; clear h2 hp2 hm2; have m0 := hm.mv.1; have m1 := hm.mv.2.1; have m3 := hm.mv.2.2.2.1)
          | ((with_reducible refine wp_store_at rfl 4 _ _ rfl ?_); refine ⟨_, _, _, _, (.bool true), rfl, rfl, rfl, hn, (by simp), Try.size_boolO, ?_⟩; intro V hV h2; simp only [List.setIfInBounds_toArray, List.set_cons_zero, List.set_cons_succ] at h2; replace hq := hV.row hq hne; have hp2 := hV.pos hp (by omega); have hm2 := hV.row hm (by omega); replace hb0 := hV.below hb0 (by omega); clear hV hn hp hm m0 m1 m3; have hn := h2; have hp := hp2; have hm := hm2; clear h2 hp2 hm2; have m0 := hm.mv.1; have m1 := hm.mv.2.1; have m3 := hm.mv.2.2.2.1)
          | ((with_reducible refine wp_load_box rfl _ rfl ?_); refine ⟨_, _, rfl, hp, ?_⟩)
          | ((with_reducible refine wp_load_box_g rfl _ rfl ?_); refine ⟨_, _, rfl, hp, ?_⟩)
          | ((with_reducible refine wp_load_row' rfl 33 _ rfl Try.underlying33 rfl ?_); refine ⟨_, _, _, rfl, hq, ?_, ?_⟩; exact Try.info_mv _ rfl)
          | ((with_reducible refine wp_load_row' rfl 33 _ rfl Try.underlying33 rfl ?_); refine ⟨_, _, _, rfl, hn, ?_, ?_⟩; exact Try.info_mv _ rfl)
          | ((with_reducible refine wp_load_row' rfl 33 _ rfl Try.underlying33 rfl ?_); refine ⟨_, _, _, rfl, hm, ?_, ?_⟩; exact Try.info_mv _ rfl)
          | ((with_reducible refine wp_load_row_g rfl 33 _ rfl Try.underlying33 rfl ?_); refine ⟨_, _, _, rfl, hq, ?_, ?_⟩; exact Try.info_mv _ rfl)
          | ((with_reducible refine wp_load_row_g rfl 33 _ rfl Try.underlying33 rfl ?_); refine ⟨_, _, _, rfl, hn, ?_, ?_⟩; exact Try.info_mv _ rfl)
          | ((with_reducible refine wp_load_row_g rfl 33 _ rfl Try.underlying33 rfl ?_); refine ⟨_, _, _, rfl, hm, ?_, ?_⟩; exact Try.info_mv _ rfl)
          | (go_at_call 14; (first | (with_reducible refine (KTd.out _).mono ?_) | (with_reducible refine (KTc.out _).mono ?_) | (with_reducible refine (KTm.out _).mono ?_)); rintro e w' ⟨rfl, hg⟩; have hb := hg.below; replace hp := hp.below hb; replace hm := hm.below hb; replace hq := hq.below hb; replace hn := hn.below hb; replace hb0 := below_next hb0 hb; clear hg hb m0 m1 m3; have m0 := hm.mv.1; have m1 := hm.mv.2.1; have m3 := hm.mv.2.2.2.1)
          | (go_at_call 15; (first | (with_reducible refine (KMd.out _).mono ?_) | (with_reducible refine (KMm.out _).mono ?_)); rintro e w' ⟨rfl, hg⟩; have hb := hg.below; replace hp := hp.below hb; replace hm := hm.below hb; replace hq := hq.below hb; replace hn := hn.below hb; replace hb0 := below_next hb0 hb; clear hg hb m0 m1 m3; have m0 := hm.mv.1; have m1 := hm.mv.2.1; have m3 := hm.mv.2.2.2.1)
          | fail)

        go_ret
        exact ⟨rfl, hb0⟩
      · clear hmo
        have hd2 : (d != 0) = true := by simpa using hd
        go_wp2_with (first
          | ((with_reducible refine wp_store_at rfl 5 _ _ rfl ?_); refine ⟨_, _, _, _, (.int .u8 3), rfl, rfl, rfl, hq, (by simp), Try.size_u8, ?_⟩; intro V hV h2; simp only [List.setIfInBounds_toArray, List.set_cons_zero, List.set_cons_succ] at h2; replace hn := hV.row hn (Ne.symm hne); have hp2 := hV.pos hp (by omega); have hm2 := hV.row hm (by omega); replace hb0 := hV.below hb0 (by omega); clear hV hq hp hm m0 m1 m3; have hq := h2; have hp := hp2; have hm := hm2; clear h2 hp2 hm2; have m0 := hm.mv.1; have m1 := hm.mv.2.1; have m3 := hm.mv.2.2.2.1)
          | ((with_reducible refine wp_store_at rfl 4 _ _ rfl ?_); refine ⟨_, _, _, _, (.bool true), rfl, rfl, rfl, hn, (by simp), Try.size_boolO, ?_⟩; intro V hV h2; simp only [List.setIfInBounds_toArray, List.set_cons_zero, List.set_cons_succ] at h2; replace hq := hV.row hq hne; have hp2 := hV.pos hp (by omega); have hm2 := hV.row hm (by omega); replace hb0 := hV.below hb0 (by omega); clear hV hn hp hm m0 m1 m3; have hn := h2; have hp := hp2; have hm := hm2; clear h2 hp2 hm2; have m0 := hm.mv.1; have m1 := hm.mv.2.1; have m3 := hm.mv.2.2.2.1)
          | ((with_reducible refine wp_load_box rfl _ rfl ?_); refine ⟨_, _, rfl, hp, ?_⟩)
          | ((with_reducible refine wp_load_box_g rfl _ rfl ?_); refine ⟨_, _, rfl, hp, ?_⟩)
          | ((with_reducible refine wp_load_row' rfl 33 _ rfl Try.underlying33 rfl ?_); refine ⟨_, _, _, rfl, hq, ?_, ?_⟩; exact Try.info_mv _ rfl)
          | ((with_reducible refine wp_load_row' rfl 33 _ rfl Try.underlying33 rfl ?_); refine ⟨_, _, _, rfl, hn, ?_, ?_⟩; exact Try.info_mv _ rfl)
          | ((with_reducible refine wp_load_row' rfl 33 _ rfl Try.underlying33 rfl ?_); refine ⟨_, _, _, rfl, hm, ?_, ?_⟩; exact Try.info_mv _ rfl)
          | ((with_reducible refine wp_load_row_g rfl 33 _ rfl Try.underlying33 rfl ?_); refine ⟨_, _, _, rfl, hq, ?_, ?_⟩; exact Try.info_mv _ rfl)
          | ((with_reducible refine wp_load_row_g rfl 33 _ rfl Try.underlying33 rfl ?_); refine ⟨_, _, _, rfl, hn, ?_, ?_⟩; exact Try.info_mv _ rfl)
          | ((with_reducible refine wp_load_row_g rfl 33 _ rfl Try.underlying33 rfl ?_); refine ⟨_, _, _, rfl, hm, ?_, ?_⟩; exact Try.info_mv _ rfl)
          | (go_at_call 14; (first | (with_reducible refine (KTd.out _).mono ?_) | (with_reducible refine (KTc.out _).mono ?_) | (with_reducible refine (KTm.out _).mono ?_)); rintro e w' ⟨rfl, hg⟩; have hb := hg.below; replace hp := hp.below hb; replace hm := hm.below hb; replace hq := hq.below hb; replace hn := hn.below hb; replace hb0 := below_next hb0 hb; clear hg hb m0 m1 m3; have m0 := hm.mv.1; have m1 := hm.mv.2.1; have m3 := hm.mv.2.2.2.1)
          | (go_at_call 15; (first | (with_reducible refine (KMd.out _).mono ?_) | (with_reducible refine (KMm.out _).mono ?_)); rintro e w' ⟨rfl, hg⟩; have hb := hg.below; replace hp := hp.below hb; replace hm := hm.below hb; replace hq := hq.below hb; replace hn := hn.below hb; replace hb0 := below_next hb0 hb; clear hg hb m0 m1 m3; have m0 := hm.mv.1; have m1 := hm.mv.2.1; have m3 := hm.mv.2.2.2.1)
          | fail)

        go_ret
        exact ⟨rfl, hb0⟩
    · have KTm := Lib.hid (fun W => O.taken_row c f t p d ca 0 W HC.out (O.taken_out c f t p d ca (.inr (.inr (.inl h.2)))))
      obtain ⟨⟨hf2, hf4⟩, ht1⟩ := h
      have hf1 : ¬ f < 0 := by omega
      have hf3 : ¬ 63 < f := by omega
      by_cases hd : d = 0
      · subst hd
        go_wp2_with (first
          | ((with_reducible refine wp_store_at rfl 5 _ _ rfl ?_); refine ⟨_, _, _, _, (.int .u8 3), rfl, rfl, rfl, hq, (by simp), Try.size_u8, ?_⟩; intro V hV h2; simp only [List.setIfInBounds_toArray, List.set_cons_zero, List.set_cons_succ] at h2; replace hn := hV.row hn (Ne.symm hne); have hp2 := hV.pos hp (by omega); have hm2 := hV.row hm (by omega); replace hb0 := hV.below hb0 (by omega); clear hV hq hp hm m0 m1 m3; have hq := h2; have hp := hp2; have hm := hm2; clear h2 hp2 hm2; have m0 := hm.mv.1; have m1 := hm.mv.2.1; have m3 := hm.mv.2.2.2.1)
          | ((with_reducible refine wp_store_at rfl 4 _ _ rfl ?_); refine ⟨_, _, _, _, (.bool true), rfl, rfl, rfl, hn, (by simp), Try.size_boolO, ?_⟩; intro V hV h2; simp only [List.setIfInBounds_toArray, List.set_cons_zero, List.set_cons_succ] at h2; replace hq := hV.row hq hne; have hp2 := hV.pos hp (by omega); have hm2 := hV.row hm (by omega); replace hb0 := hV.below hb0 (by omega); clear hV hn hp hm m0 m1 m3; have hn := h2; have hp := hp2; have hm := hm2; clear h2 hp2 hm2; have m0 := hm.mv.1; have m1 := hm.mv.2.1; have m3 := hm.mv.2.2.2.1)
          | ((with_reducible refine wp_load_box rfl _ rfl ?_); refine ⟨_, _, rfl, hp, ?_⟩)
          | ((with_reducible refine wp_load_box_g rfl _ rfl ?_); refine ⟨_, _, rfl, hp, ?_⟩)
          | ((with_reducible refine wp_load_row' rfl 33 _ rfl Try.underlying33 rfl ?_); refine ⟨_, _, _, rfl, hq, ?_, ?_⟩; exact Try.info_mv _ rfl)
          | ((with_reducible refine wp_load_row' rfl 33 _ rfl Try.underlying33 rfl ?_); refine ⟨_, _, _, rfl, hn, ?_, ?_⟩; exact Try.info_mv _ rfl)
          | ((with_reducible refine wp_load_row' rfl 33 _ rfl Try.underlying33 rfl ?_); refine ⟨_, _, _, rfl, hm, ?_, ?_⟩; exact Try.info_mv _ rfl)
          | ((with_reducible refine wp_load_row_g rfl 33 _ rfl Try.underlying33 rfl ?_); refine ⟨_, _, _, rfl, hq, ?_, ?_⟩; exact Try.info_mv _ rfl)
          | ((with_reducible refine wp_load_row_g rfl 33 _ rfl Try.underlying33 rfl ?_); refine ⟨_, _, _, rfl, hn, ?_, ?_⟩; exact Try.info_mv _ rfl)
          | ((with_reducible refine wp_load_row_g rfl 33 _ rfl Try.underlying33 rfl ?_); refine ⟨_, _, _, rfl, hm, ?_, ?_⟩; exact Try.info_mv _ rfl)
          | (go_at_call 14; (first | (with_reducible refine (KTd.out _).mono ?_) | (with_reducible refine (KTc.out _).mono ?_) | (with_reducible refine (KTm.out _).mono ?_)); rintro e w' ⟨rfl, hg⟩; have hb := hg.below; replace hp := hp.below hb; replace hm := hm.below hb; replace hq := hq.below hb; replace hn := hn.below hb; replace hb0 := below_next hb0 hb; clear hg hb m0 m1 m3; have m0 := hm.mv.1; have m1 := hm.mv.2.1; have m3 := hm.mv.2.2.2.1)
          | (go_at_call 15; (first | (with_reducible refine (KMd.out _).mono ?_) | (with_reducible refine (KMm.out _).mono ?_)); rintro e w' ⟨rfl, hg⟩; have hb := hg.below; replace hp := hp.below hb; replace hm := hm.below hb; replace hq := hq.below hb; replace hn := hn.below hb; replace hb0 := below_next hb0 hb; clear hg hb m0 m1 m3; have m0 := hm.mv.1; have m1 := hm.mv.2.1; have m3 := hm.mv.2.2.2.1)
          | fail)

        go_ret
        exact ⟨rfl, hb0⟩
      · have hd2 : (d != 0) = true := by simpa using hd
        go_wp2_with (first
          | ((with_reducible refine wp_store_at rfl 5 _ _ rfl ?_); refine ⟨_, _, _, _, (.int .u8 3), rfl, rfl, rfl, hq, (by simp), Try.size_u8, ?_⟩; intro V hV h2; simp only [List.setIfInBounds_toArray, List.set_cons_zero, List.set_cons_succ] at h2; replace hn := hV.row hn (Ne.symm hne); have hp2 := hV.pos hp (by omega); have hm2 := hV.row hm (by omega); replace hb0 := hV.below hb0 (by omega); clear hV hq hp hm m0 m1 m3; have hq := h2; have hp := hp2; have hm := hm2; clear h2 hp2 hm2; have m0 := hm.mv.1; have m1 := hm.mv.2.1; have m3 := hm.mv.2.2.2.1)
          | ((with_reducible refine wp_store_at rfl 4 _ _ rfl ?_); refine ⟨_, _, _, _, (.bool true), rfl, rfl, rfl, hn, (by simp), Try.size_boolO, ?_⟩; intro V hV h2; simp only [List.setIfInBounds_toArray, List.set_cons_zero, List.set_cons_succ] at h2; replace hq := hV.row hq hne; have hp2 := hV.pos hp (by omega); have hm2 := hV.row hm (by omega); replace hb0 := hV.below hb0 (by omega); clear hV hn hp hm m0 m1 m3; have hn := h2; have hp := hp2; have hm := hm2; clear h2 hp2 hm2; have m0 := hm.mv.1; have m1 := hm.mv.2.1; have m3 := hm.mv.2.2.2.1)
          | ((with_reducible refine wp_load_box rfl _ rfl ?_); refine ⟨_, _, rfl, hp, ?_⟩)
          | ((with_reducible refine wp_load_box_g rfl _ rfl ?_); refine ⟨_, _, rfl, hp, ?_⟩)
          | ((with_reducible refine wp_load_row' rfl 33 _ rfl Try.underlying33 rfl ?_); refine ⟨_, _, _, rfl, hq, ?_, ?_⟩; exact Try.info_mv _ rfl)
          | ((with_reducible refine wp_load_row' rfl 33 _ rfl Try.underlying33 rfl ?_); refine ⟨_, _, _, rfl, hn, ?_, ?_⟩; exact Try.info_mv _ rfl)
          | ((with_reducible refine wp_load_row' rfl 33 _ rfl Try.underlying33 rfl ?_); refine ⟨_, _, _, rfl, hm, ?_, ?_⟩; exact Try.info_mv _ rfl)
          | ((with_reducible refine wp_load_row_g rfl 33 _ rfl Try.underlying33 rfl ?_); refine ⟨_, _, _, rfl, hq, ?_, ?_⟩; exact Try.info_mv _ rfl)
          | ((with_reducible refine wp_load_row_g rfl 33 _ rfl Try.underlying33 rfl ?_); refine ⟨_, _, _, rfl, hn, ?_, ?_⟩; exact Try.info_mv _ rfl)
          | ((with_reducible refine wp_load_row_g rfl 33 _ rfl Try.underlying33 rfl ?_); refine ⟨_, _, _, rfl, hm, ?_, ?_⟩; exact Try.info_mv _ rfl)
          | (go_at_call 14; (first | (with_reducible refine (KTd.out _).mono ?_) | (with_reducible refine (KTc.out _).mono ?_) | (with_reducible refine (KTm.out _).mono ?_)); rintro e w' ⟨rfl, hg⟩; have hb := hg.below; replace hp := hp.below hb; replace hm := hm.below hb; replace hq := hq.below hb; replace hn := hn.below hb; replace hb0 := below_next hb0 hb; clear hg hb m0 m1 m3; have m0 := hm.mv.1; have m1 := hm.mv.2.1; have m3 := hm.mv.2.2.2.1)
          | (go_at_call 15; (first | (with_reducible refine (KMd.out _).mono ?_) | (with_reducible refine (KMm.out _).mono ?_)); rintro e w' ⟨rfl, hg⟩; have hb := hg.below; replace hp := hp.below hb; replace hm := hm.below hb; replace hq := hq.below hb; replace hn := hn.below hb; replace hb0 := below_next hb0 hb; clear hg hb m0 m1 m3; have m0 := hm.mv.1; have m1 := hm.mv.2.1; have m3 := hm.mv.2.2.2.1)
          | fail)

        go_ret
        exact ⟨rfl, hb0⟩
    · have KTm := Lib.hid (fun W => O.taken_row c f t p d ca 0 W HC.out (O.taken_out c f t p d ca (.inr (.inr (.inr h.2)))))
      obtain ⟨⟨hf2, hf4⟩, ht3⟩ := h
      have hf1 : ¬ f < 0 := by omega
      have hf3 : ¬ 63 < f := by omega
      have ht1 : ¬ t < 0 := by omega
      by_cases hd : d = 0
      · subst hd
        go_wp2_with (first
          | ((with_reducible refine wp_store_at rfl 5 _ _ rfl ?_); refine ⟨_, _, _, _, (.int .u8 3), rfl, rfl, rfl, hq, (by simp), Try.size_u8, ?_⟩; intro V hV h2; simp only [List.setIfInBounds_toArray, List.set_cons_zero, List.set_cons_succ] at h2; replace hn := hV.row hn (Ne.symm hne); have hp2 := hV.pos hp (by omega); have hm2 := hV.row hm (by omega); replace hb0 := hV.below hb0 (by omega); clear hV hq hp hm m0 m1 m3; have hq := h2; have hp := hp2; have hm := hm2; clear h2 hp2 hm2; have m0 := hm.mv.1; have m1 := hm.mv.2.1; have m3 := hm.mv.2.2.2.1)
          | ((with_reducible refine wp_store_at rfl 4 _ _ rfl ?_); refine ⟨_, _, _, _, (.bool true), rfl, rfl, rfl, hn, (by simp), Try.size_boolO, ?_⟩; intro V hV h2; simp only [List.setIfInBounds_toArray, List.set_cons_zero, List.set_cons_succ] at h2; replace hq := hV.row hq hne; have hp2 := hV.pos hp (by omega); have hm2 := hV.row hm (by omega); replace hb0 := hV.below hb0 (by omega); clear hV hn hp hm m0 m1 m3; have hn := h2; have hp := hp2; have hm := hm2; clear h2 hp2 hm2; have m0 := hm.mv.1; have m1 := hm.mv.2.1; have m3 := hm.mv.2.2.2.1)
          | ((with_reducible refine wp_load_box rfl _ rfl ?_); refine ⟨_, _, rfl, hp, ?_⟩)
          | ((with_reducible refine wp_load_box_g rfl _ rfl ?_); refine ⟨_, _, rfl, hp, ?_⟩)
          | ((with_reducible refine wp_load_row' rfl 33 _ rfl Try.underlying33 rfl ?_); refine ⟨_, _, _, rfl, hq, ?_, ?_⟩; exact Try.info_mv _ rfl)
          | ((with_reducible refine wp_load_row' rfl 33 _ rfl Try.underlying33 rfl ?_); refine ⟨_, _, _, rfl, hn, ?_, ?_⟩; exact Try.info_mv _ rfl)
          | ((with_reducible refine wp_load_row' rfl 33 _ rfl Try.underlying33 rfl ?_); refine ⟨_, _, _, rfl, hm, ?_, ?_⟩; exact Try.info_mv _ rfl)
          | ((with_reducible refine wp_load_row_g rfl 33 _ rfl Try.underlying33 rfl ?_); refine ⟨_, _, _, rfl, hq, ?_, ?_⟩; exact Try.info_mv _ rfl)
          | ((with_reducible refine wp_load_row_g rfl 33 _ rfl Try.underlying33 rfl ?_); refine ⟨_, _, _, rfl, hn, ?_, ?_⟩; exact Try.info_mv _ rfl)
          | ((with_reducible refine wp_load_row_g rfl 33 _ rfl Try.underlying33 rfl ?_); refine ⟨_, _, _, rfl, hm, ?_, ?_⟩; exact Try.info_mv _ rfl)
          | (go_at_call 14; (first | (with_reducible refine (KTd.out _).mono ?_) | (with_reducible refine (KTc.out _).mono ?_) | (with_reducible refine (KTm.out _).mono ?_)); rintro e w' ⟨rfl, hg⟩; have hb := hg.below; replace hp := hp.below hb; replace hm := hm.below hb; replace hq := hq.below hb; replace hn := hn.below hb; replace hb0 := below_next hb0 hb; clear hg hb m0 m1 m3; have m0 := hm.mv.1; have m1 := hm.mv.2.1; have m3 := hm.mv.2.2.2.1)
          | (go_at_call 15; (first | (with_reducible refine (KMd.out _).mono ?_) | (with_reducible refine (KMm.out _).mono ?_)); rintro e w' ⟨rfl, hg⟩; have hb := hg.below; replace hp := hp.below hb; replace hm := hm.below hb; replace hq := hq.below hb; replace hn := hn.below hb; replace hb0 := below_next hb0 hb; clear hg hb m0 m1 m3; have m0 := hm.mv.1; have m1 := hm.mv.2.1; have m3 := hm.mv.2.2.2.1)
          | fail)

        go_ret
        exact ⟨rfl, hb0⟩
      · have hd2 : (d != 0) = true := by simpa using hd
        go_wp2_with (first
          | ((with_reducible refine wp_store_at rfl 5 _ _ rfl ?_); refine ⟨_, _, _, _, (.int .u8 3), rfl, rfl, rfl, hq, (by simp), Try.size_u8, ?_⟩; intro V hV h2; simp only [List.setIfInBounds_toArray, List.set_cons_zero, List.set_cons_succ] at h2; replace hn := hV.row hn (Ne.symm hne); have hp2 := hV.pos hp (by omega); have hm2 := hV.row hm (by omega); replace hb0 := hV.below hb0 (by omega); clear hV hq hp hm m0 m1 m3; have hq := h2; have hp := hp2; have hm := hm2; clear h2 hp2 hm2; have m0 := hm.mv.1; have m1 := hm.mv.2.1; have m3 := hm.mv.2.2.2.1)
          | ((with_reducible refine wp_store_at rfl 4 _ _ rfl ?_); refine ⟨_, _, _, _, (.bool true), rfl, rfl, rfl, hn, (by simp), Try.size_boolO, ?_⟩; intro V hV h2; simp only [List.setIfInBounds_toArray, List.set_cons_zero, List.set_cons_succ] at h2; replace hq := hV.row hq hne; have hp2 := hV.pos hp (by omega); have hm2 := hV.row hm (by omega); replace hb0 := hV.below hb0 (by omega); clear hV hn hp hm m0 m1 m3; have hn := h2; have hp := hp2; have hm := hm2; clear h2 hp2 hm2; have m0 := hm.mv.1; have m1 := hm.mv.2.1; have m3 := hm.mv.2.2.2.1)
          | ((with_reducible refine wp_load_box rfl _ rfl ?_); refine ⟨_, _, rfl, hp, ?_⟩)
          | ((with_reducible refine wp_load_box_g rfl _ rfl ?_); refine ⟨_, _, rfl, hp, ?_⟩)
          | ((with_reducible refine wp_load_row' rfl 33 _ rfl Try.underlying33 rfl ?_); refine ⟨_, _, _, rfl, hq, ?_, ?_⟩; exact Try.info_mv _ rfl)
          | ((with_reducible refine wp_load_row' rfl 33 _ rfl Try.underlying33 rfl ?_); refine ⟨_, _, _, rfl, hn, ?_, ?_⟩; exact Try.info_mv _ rfl)
          | ((with_reducible refine wp_load_row' rfl 33 _ rfl Try.underlying33 rfl ?_); refine ⟨_, _, _, rfl, hm, ?_, ?_⟩; exact Try.info_mv _ rfl)
          | ((with_reducible refine wp_load_row_g rfl 33 _ rfl Try.underlying33 rfl ?_); refine ⟨_, _, _, rfl, hq, ?_, ?_⟩; exact Try.info_mv _ rfl)
          | ((with_reducible refine wp_load_row_g rfl 33 _ rfl Try.underlying33 rfl ?_); refine ⟨_, _, _, rfl, hn, ?_, ?_⟩; exact Try.info_mv _ rfl)
          | ((with_reducible refine wp_load_row_g rfl 33 _ rfl Try.underlying33 rfl ?_); refine ⟨_, _, _, rfl, hm, ?_, ?_⟩; exact Try.info_mv _ rfl)
          | (go_at_call 14; (first | (with_reducible refine (KTd.out _).mono ?_) | (with_reducible refine (KTc.out _).mono ?_) | (with_reducible refine (KTm.out _).mono ?_)); rintro e w' ⟨rfl, hg⟩; have hb := hg.below; replace hp := hp.below hb; replace hm := hm.below hb; replace hq := hq.below hb; replace hn := hn.below hb; replace hb0 := below_next hb0 hb; clear hg hb m0 m1 m3; have m0 := hm.mv.1; have m1 := hm.mv.2.1; have m3 := hm.mv.2.2.2.1)
          | (go_at_call 15; (first | (with_reducible refine (KMd.out _).mono ?_) | (with_reducible refine (KMm.out _).mono ?_)); rintro e w' ⟨rfl, hg⟩; have hb := hg.below; replace hp := hp.below hb; replace hm := hm.below hb; replace hq := hq.below hb; replace hn := hn.below hb; replace hb0 := below_next hb0 hb; clear hg hb m0 m1 m3; have m0 := hm.mv.1; have m1 := hm.mv.2.1; have m3 := hm.mv.2.2.2.1)
          | fail)

        go_ret
        exact ⟨rfl, hb0⟩
    · obtain ⟨⟨hf2, hf4⟩, ht2, ht4⟩ := h
      have hf1 : ¬ f < 0 := by omega
      have hf3 : ¬ 63 < f := by omega
      have ht1 : ¬ t < 0 := by omega
      have ht3 : ¬ 63 < t := by omega
      by_cases hd : d = 0
      · subst hd
        go_wp2_with (first
          | ((with_reducible refine wp_store_at rfl 5 _ _ rfl ?_); refine ⟨_, _, _, _, (.int .u8 3), rfl, rfl, rfl, hq, (by simp), Try.size_u8, ?_⟩; intro V hV h2; simp only [List.setIfInBounds_toArray, List.set_cons_zero, List.set_cons_succ] at h2; replace hn := hV.row hn (Ne.symm hne); have hp2 := hV.pos hp (by omega); have hm2 := hV.row hm (by omega); replace hb0 := hV.below hb0 (by omega); clear hV hq hp hm m0 m1 m3; have hq := h2; have hp := hp2; have hm := hm2; clear h2 hp2 hm2; have m0 := hm.mv.1; have m1 := hm.mv.2.1; have m3 := hm.mv.2.2.2.1)
          | ((with_reducible refine wp_store_at rfl 4 _ _ rfl ?_); refine ⟨_, _, _, _, (.bool true), rfl, rfl, rfl, hn, (by simp), Try.size_boolO, ?_⟩; intro V hV h2; simp only [List.setIfInBounds_toArray, List.set_cons_zero, List.set_cons_succ] at h2; replace hq := hV.row hq hne; have hp2 := hV.pos hp (by omega); have hm2 := hV.row hm (by omega); replace hb0 := hV.below hb0 (by omega); clear hV hn hp hm m0 m1 m3; have hn := h2; have hp := hp2; have hm := hm2; clear h2 hp2 hm2; have m0 := hm.mv.1; have m1 := hm.mv.2.1; have m3 := hm.mv.2.2.2.1)
          | ((with_reducible refine wp_load_box rfl _ rfl ?_); refine ⟨_, _, rfl, hp, ?_⟩)
          | ((with_reducible refine wp_load_box_g rfl _ rfl ?_); refine ⟨_, _, rfl, hp, ?_⟩)
          | ((with_reducible refine wp_load_row' rfl 33 _ rfl Try.underlying33 rfl ?_); refine ⟨_, _, _, rfl, hq, ?_, ?_⟩; exact Try.info_mv _ rfl)
          | ((with_reducible refine wp_load_row' rfl 33 _ rfl Try.underlying33 rfl ?_); refine ⟨_, _, _, rfl, hn, ?_, ?_⟩; exact Try.info_mv _ rfl)
          | ((with_reducible refine wp_load_row' rfl 33 _ rfl Try.underlying33 rfl ?_); refine ⟨_, _, _, rfl, hm, ?_, ?_⟩; exact Try.info_mv _ rfl)
          | ((with_reducible refine wp_load_row_g rfl 33 _ rfl Try.underlying33 rfl ?_); refine ⟨_, _, _, rfl, hq, ?_, ?_⟩; exact Try.info_mv _ rfl)
          | ((with_reducible refine wp_load_row_g rfl 33 _ rfl Try.underlying33 rfl ?_); refine ⟨_, _, _, rfl, hn, ?_, ?_⟩; exact Try.info_mv _ rfl)
          | ((with_reducible refine wp_load_row_g rfl 33 _ rfl Try.underlying33 rfl ?_); refine ⟨_, _, _, rfl, hm, ?_, ?_⟩; exact Try.info_mv _ rfl)
          | (go_at_call 14; (first | (with_reducible refine (KTd.out _).mono ?_) | (with_reducible refine (KTc.out _).mono ?_) | (with_reducible refine (KTm.out _).mono ?_)); rintro e w' ⟨rfl, hg⟩; have hb := hg.below; replace hp := hp.below hb; replace hm := hm.below hb; replace hq := hq.below hb; replace hn := hn.below hb; replace hb0 := below_next hb0 hb; clear hg hb m0 m1 m3; have m0 := hm.mv.1; have m1 := hm.mv.2.1; have m3 := hm.mv.2.2.2.1)
          | (go_at_call 15; (first | (with_reducible refine (KMd.out _).mono ?_) | (with_reducible refine (KMm.out _).mono ?_)); rintro e w' ⟨rfl, hg⟩; have hb := hg.below; replace hp := hp.below hb; replace hm := hm.below hb; replace hq := hq.below hb; replace hn := hn.below hb; replace hb0 := below_next hb0 hb; clear hg hb m0 m1 m3; have m0 := hm.mv.1; have m1 := hm.mv.2.1; have m3 := hm.mv.2.2.2.1)
          | fail)

        go_ret
        exact ⟨rfl, hb0⟩
      · have hd2 : (d != 0) = true := by simpa using hd
        go_wp2_with (first
          | ((with_reducible refine wp_store_at rfl 5 _ _ rfl ?_); refine ⟨_, _, _, _, (.int .u8 3), rfl, rfl, rfl, hq, (by simp), Try.size_u8, ?_⟩; intro V hV h2; simp only [List.setIfInBounds_toArray, List.set_cons_zero, List.set_cons_succ] at h2; replace hn := hV.row hn (Ne.symm hne); have hp2 := hV.pos hp (by omega); have hm2 := hV.row hm (by omega); replace hb0 := hV.below hb0 (by omega); clear hV hq hp hm m0 m1 m3; have hq := h2; have hp := hp2; have hm := hm2; clear h2 hp2 hm2; have m0 := hm.mv.1; have m1 := hm.mv.2.1; have m3 := hm.mv.2.2.2.1)
          | ((with_reducible refine wp_store_at rfl 4 _ _ rfl ?_); refine ⟨_, _, _, _, (.bool true), rfl, rfl, rfl, hn, (by simp), Try.size_boolO, ?_⟩; intro V hV h2; simp only [List.setIfInBounds_toArray, List.set_cons_zero, List.set_cons_succ] at h2; replace hq := hV.row hq hne; have hp2 := hV.pos hp (by omega); have hm2 := hV.row hm (by omega); replace hb0 := hV.below hb0 (by omega); clear hV hn hp hm m0 m1 m3; have hn := h2; have hp := hp2; have hm := hm2; clear h2 hp2 hm2; have m0 := hm.mv.1; have m1 := hm.mv.2.1; have m3 := hm.mv.2.2.2.1)
          | ((with_reducible refine wp_load_box rfl _ rfl ?_); refine ⟨_, _, rfl, hp, ?_⟩)
          | ((with_reducible refine wp_load_box_g rfl _ rfl ?_); refine ⟨_, _, rfl, hp, ?_⟩)
          | ((with_reducible refine wp_load_row' rfl 33 _ rfl Try.underlying33 rfl ?_); refine ⟨_, _, _, rfl, hq, ?_, ?_⟩; exact Try.info_mv _ rfl)
          | ((with_reducible refine wp_load_row' rfl 33 _ rfl Try.underlying33 rfl ?_); refine ⟨_, _, _, rfl, hn, ?_, ?_⟩; exact Try.info_mv _ rfl)
          | ((with_reducible refine wp_load_row' rfl 33 _ rfl Try.underlying33 rfl ?_); refine ⟨_, _, _, rfl, hm, ?_, ?_⟩; exact Try.info_mv _ rfl)
          | ((with_reducible refine wp_load_row_g rfl 33 _ rfl Try.underlying33 rfl ?_); refine ⟨_, _, _, rfl, hq, ?_, ?_⟩; exact Try.info_mv _ rfl)
          | ((with_reducible refine wp_load_row_g rfl 33 _ rfl Try.underlying33 rfl ?_); refine ⟨_, _, _, rfl, hn, ?_, ?_⟩; exact Try.info_mv _ rfl)
          | ((with_reducible refine wp_load_row_g rfl 33 _ rfl Try.underlying33 rfl ?_); refine ⟨_, _, _, rfl, hm, ?_, ?_⟩; exact Try.info_mv _ rfl)
          | (go_at_call 14; (first | (with_reducible refine (KTd.out _).mono ?_) | (with_reducible refine (KTc.out _).mono ?_) | (with_reducible refine (KTm.out _).mono ?_)); rintro e w' ⟨rfl, hg⟩; have hb := hg.below; replace hp := hp.below hb; replace hm := hm.below hb; replace hq := hq.below hb; replace hn := hn.below hb; replace hb0 := below_next hb0 hb; clear hg hb m0 m1 m3; have m0 := hm.mv.1; have m1 := hm.mv.2.1; have m3 := hm.mv.2.2.2.1)
          | (go_at_call 15; (first | (with_reducible refine (KMd.out _).mono ?_) | (with_reducible refine (KMm.out _).mono ?_)); rintro e w' ⟨rfl, hg⟩; have hb := hg.below; replace hp := hp.below hb; replace hm := hm.below hb; replace hq := hq.below hb; replace hn := hn.below hb; replace hb0 := below_next hb0 hb; clear hg hb m0 m1 m3; have m0 := hm.mv.1; have m1 := hm.mv.2.1; have m3 := hm.mv.2.2.2.1)
          | fail)

        go_ret
        exact ⟨rfl, hb0⟩

end Go.Proofs.Ytdcmjbebkmicaaa
