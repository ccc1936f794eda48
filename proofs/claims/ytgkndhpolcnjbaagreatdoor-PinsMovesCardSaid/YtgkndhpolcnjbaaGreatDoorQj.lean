/- Several texts in one: SideA, SideB, Ask. -/

import Derived.Test.YtgkndhpolcnjbaaGreatDoorQh
import Derived.Test.YtgkndhpolcnjbaaGreatDoorQd
namespace Go.Proofs.YtgkndhpolcnjbaaGreatDoor
open Go.RowKit Go.Sort
attribute [local go_sem] Oper.semAt_some
namespace Z
/-- Who is to move: a position, its own men, the others. -/
def sd (c : Nat → Int) (o h : BitVec 64) : Array Value := posC c ++ #[.int .u64 (U o), .int .u64 (U h)]
theorem sd_size (c : Nat → Int) (o h : BitVec 64) : (sd c o h).size = 90 := by simp [sd, posC_size]
theorem sd_pos (c : Nat → Int) (o h : BitVec 64) (i : Nat) (hi : i < 88) : (sd c o h)[i]? = some (.int (pk i) (c i)) := by
  unfold sd
  rw [Array.getElem?_append_left (by rw [posC_size]; exact hi), posC_get c i hi]
theorem sd_own (c : Nat → Int) (o h : BitVec 64) : (sd c o h)[88]? = some (.int .u64 (U o)) := by
  unfold sd
  rw [Array.getElem?_append_right (by rw [posC_size]; omega), posC_size]; rfl
theorem sd_oth (c : Nat → Int) (o h : BitVec 64) : (sd c o h)[89]? = some (.int .u64 (U h)) := by
  unfold sd
  rw [Array.getElem?_append_right (by rw [posC_size]; omega), posC_size]; rfl
theorem sd_one (c : Nat → Int) (o h : BitVec 64) : (sd c o h).all (·.oneCell') = true := by
  unfold sd
  rw [Array.all_append, posC_one]; simp [Value.oneCell']
def own (c : Nat → Int) : BitVec 64 := S.of c (c 78) 0
def oth (c : Nat → Int) : BitVec 64 := S.of c (1 - c 78) 0
def passing (c : Nat → Int) : BitVec 64 := B.one (c 83)
def rank (t s : Nat) : Nat := if t = 1 then 7 - s / 8 else s / 8
def ahead (t : Nat) (s : Int) : Int := if t = 1 then s - 8 else s + 8
end Z
theorem pos_i8z {c : Nat → Int} (h : PosOk c) {i : Nat} (hi : i < 88) (hk : pk i = .i8) : -128 ≤ c i ∧ c i ≤ 127 := by
  have := h i hi
  rw [hk] at this
  exact bounds_i8 this
theorem Tryz.infoSd : (Tryz.prog.info? 94).map (·.size) = some 90 := by kernel_rfl
theorem Z.info (c : Nat → Int) (o h : BitVec 64) : (Tryz.prog.info? 94).map (·.size) = some (Z.sd c o h).size := by rw [Z.sd_size]; exact Tryz.infoSd
theorem Z.built (c : Nat → Int) (o h : BitVec 64) : Tryz.prog.built 94 [(0, .agg (posC c)), (1, .int .u64 (U o)), (2, .int .u64 (U h))] = some (Z.sd c o h) := by kernel_rfl
set_option maxRecDepth 100000 in
theorem passing_any (c : Nat → Int) (o h : BitVec 64) (w : World) (hc : PosOk c) :
    Calls Tryz.prog 263 #[.agg (Z.sd c o h)] w fun e w' => e = .returned (.int .u64 (U (Z.passing c))) ∧ Below w.heap.size w w' := by
  have hp := RowAt.new w (Z.sd c o h) 94
  have hb0 : Below w.heap.size w (w.alloc (.cells (Z.sd c o h) 94)) := (Below.refl _ _).alloc (Nat.le_refl _) _
  obtain ⟨p0, p1⟩ := pos_i8z hc (i := 83) (by decide) rfl
  have h83 := (hp.cell 83).trans (Z.sd_pos c o h 83 (by decide))
  rw [show pk 83 = .i8 from rfl] at h83
  obtain ⟨q, hq⟩ : ∃ q, c 83 = q := ⟨_, rfl⟩
  have Hq := Lib.hid (show Z.passing c = B.one q by unfold Z.passing; rw [hq])
  rw [hq] at h83 p0 p1
  clear hq
  by_cases h1 : q < 0
  · have e := Lib.hid (B.one_out q (.inl h1))
    go_enter Tryz.func263, Tryz.ntmps263
    go_wp2
    go_ret
    exact ⟨ret_int (by rw [Hq.out, e.out]; rfl), hb0⟩
  · by_cases h2 : 64 ≤ q
    · have e := Lib.hid (B.one_out q (.inr h2))
      go_enter Tryz.func263, Tryz.ntmps263
      go_wp2
      go_ret
      exact ⟨ret_int (by rw [Hq.out, e.out]; rfl), hb0⟩
    · have e := Lib.hid (B.one_val q (by omega) (by omega))
      have hw : IntKind.u64.wrap q = q := by rw [IntKind.wrap_u64]; omega
      go_enter Tryz.func263, Tryz.ntmps263
      go_wp2
      go_ret
      exact ⟨ret_int (by rw [Hq.out, e.out]), hb0⟩
theorem xor56 : ∀ s : Fin 64, (bits .xor .i64 ((s.val : Nat) : Int) 56) = (((s.val + 56 - 2 * (8 * (s.val / 8)) : Nat)) : Int) := by decide +kernel
set_option maxRecDepth 100000 in
theorem rank_any (t s : Nat) (w : World) (hs : s < 64) :
    Calls Tryz.prog 203 #[.int .u8 (t : Int), .int .i64 (s : Int)] w fun e w' => e = .returned (.int .i64 (Z.rank t s : Nat)) ∧ w = w' := by
  by_cases h : t = 1
  · subst h
    have hx := xor56 ⟨s, hs⟩
    simp only at hx
    have E := Lib.hid (show ((s + 56 - 2 * (8 * (s / 8)) : Nat) : Int) / 8 = (Z.rank 1 s : Nat) by
      unfold Z.rank; rw [if_pos rfl]
      omega)
    go_enter Tryz.func203, Tryz.ntmps203
    go_wp2
    go_ret
    exact ⟨ret_int (by rw [← E.out]), rfl⟩
  · have E := Lib.hid (show (s : Int) / 8 = (Z.rank t s : Nat) by
      unfold Z.rank; rw [if_neg h]
      omega)
    have h1 : decide ((t : Int) = 1) = false := by simp; omega
    go_enter Tryz.func203, Tryz.ntmps203
    go_wp2
    go_ret
    exact ⟨ret_int (by rw [← E.out]), rfl⟩
set_option maxRecDepth 100000 in
theorem ahead_any (t : Nat) (s : Int) (w : World) (h0 : -1000 ≤ s) (h1 : s ≤ 1000) :
    Calls Tryz.prog 71 #[.int .u8 (t : Int), .int .i64 s] w fun e w' => e = .returned (.int .i64 (Z.ahead t s)) ∧ w = w' := by
  have w1 : wrap64 (s - 8) = s - 8 := IntWalk.wrap64_in _ ⟨by omega, by omega⟩
  have w2 : wrap64 (s + 8) = s + 8 := IntWalk.wrap64_in _ ⟨by omega, by omega⟩
  by_cases h : t = 1
  · subst h
    have E := Lib.hid (show Z.ahead 1 s = s - 8 by unfold Z.ahead; rw [if_pos rfl])
    go_enter Tryz.func71, Tryz.ntmps71
    go_wp2
    go_ret
    exact ⟨ret_int (by rw [E.out]), rfl⟩
  · have E := Lib.hid (show Z.ahead t s = s + 8 by unfold Z.ahead; rw [if_neg h])
    have h1 : decide ((t : Int) = 1) = false := by simp; omega
    go_enter Tryz.func71, Tryz.ntmps71
    go_wp2
    go_ret
    exact ⟨ret_int (by rw [E.out]), rfl⟩
theorem Z.zero : Tryz.zeroCells94 = Z.sd (fun _ => 0) 0#64 0#64 := by kernel_rfl
theorem results_row_tmp {P : Program} {fn : Func} {p u : Tmp} {ty : TypeId} (h : fn.results = #[.cell p ty, .tmp u]) (tmps : Array Value) (w : World) (g : Nat) (t : TypeId) (cs : Array Value) (fr : Nat × Nat) (d : TypeDesc)
    (hp : tmps.getD p undef = .pointer (some ⟨g, 0, none⟩)) (hg : w.heap[g]? = some (.cells cs t fr))
    (hu : P.underlying ty = some d) (hd : (match d with | .struct _ | .array _ _ => true | _ => false) = true) (hi : (P.info? ty).map (·.size) = some cs.size) :
    (results fn tmps).run P w = .ok (.tuple #[.agg cs, tmps.getD u undef]) w := by
  rw [results_cell_tmp h, hp]
  simp [asAddr, run_loadVar_row w g t ty cs fr d hg hu hd hi, Result.andThen]
theorem quiet_build {P : Program} {C : World → Prop} {K : Act → Prop} {a : Act} {o : Oper} (t : TypeId) (parts : Array (Nat × Operand)) (ho : o.op = .build t parts) (l : List (Nat × Value)) (cells : Array Value)
    (hl : (parts.toList.map fun q => (q.1, a.eval q.2)) = l) (hb : P.built t l = some cells) (hk : K (a.put o.dst (.agg cells))) : o.quiet P a C K := by
  subst hl
  refine ⟨.agg cells, fun w _ => ?_, hk⟩
  unfold Oper.quietAt execOp
  simp only [ho]
  have h := run_build w t (parts.map fun (i, x) => (i, a.eval x)) cells (by rw [Array.toList_map]; exact hb)
  simp only [Sem.run_bind, h, Result.andThen_ok, Sem.run_pure]
  exact ⟨rfl, rfl⟩
namespace Z
def ok (c : Nat → Int) : Bool := decide (c 78 ≤ 1 ∧ c 0 < 9)
def ofV (c : Nat → Int) : Value := if ok c then .tuple #[.agg (sd c (own c) (oth c)), .bool true] else .tuple #[.agg (sd (fun _ => 0) 0#64 0#64), .bool false]
end Z
set_option maxRecDepth 100000 in
set_option maxHeartbeats 1000000 in
theorem pof_any (c : Nat → Int) (w : World) (hc : PosOk c) :
    Calls Tryz.prog 69 #[.agg (posC c)] w fun e w' => e = .returned (Z.ofV c) ∧ Below w.heap.size w w' := by
  have hcb := pos_bd hc
  have Hc := Lib.hid hcb
  clear hcb
  have hb0 : Below w.heap.size w (w.alloc (.cells (posC c) 31)) := (Below.refl _ _).alloc (Nat.le_refl _) _
  have hp := PosAt.new w c
  obtain ⟨v0, v1⟩ := pos_u8 hc (i := 0) (by decide) rfl
  obtain ⟨t0, t1⟩ := pos_u8 hc (i := 78) (by decide) rfl
  have h0 := hp.cell (i := 0) (by decide)
  rw [show pk 0 = .u8 from rfl] at h0
  have h78 := hp.cell (i := 78) (by decide)
  rw [show pk 78 = .u8 from rfl] at h78
  have hz0 : ((w.alloc (.cells (posC c) 31)).alloc (.cells Tryz.zeroCells94 94)).heap[w.heap.size + 1]? = some (.cells Tryz.zeroCells94 94 (0, 0)) := by
    have := heap_alloc_new (w.alloc (.cells (posC c) 31)) (.cells Tryz.zeroCells94 94)
    rwa [World.size_alloc] at this
  have hzi : (Tryz.prog.info? 94).map (·.size) = some Tryz.zeroCells94.size := by rw [Z.zero]; exact Z.info _ _ _
  have hz1 : Tryz.zeroCells94.all (·.oneCell') = true := by rw [Z.zero]; exact Z.sd_one _ _ _
  by_cases h1 : 1 < c 78
  · have E := Lib.hid (show Z.ofV c = .tuple #[.agg Tryz.zeroCells94, .bool false] by
      unfold Z.ofV Z.ok
      rw [decide_eq_false (by omega), Z.zero]; rfl)
    go_enter Tryz.func69, Tryz.ntmps69
    go_wp2_with (refine wp_store_row' rfl 94 _ _ rfl ⟨w.heap.size + 1, 94, Tryz.zeroCells94, rfl, rfl, ⟨_, hz0, rfl⟩, hzi, hz1, ?_⟩; intro W' hP hR)
    exact bodyPost_ret (results_row_tmp Tryz.results69 _ _ (w.heap.size + 1) _ _ _ _ rfl hR.heap Tryz.underlying94 rfl hzi) rfl ⟨by rw [E.out]; rfl, hP.below ((hb0.alloc (by simp) _)) (by omega)⟩
  · by_cases h2 : 9 ≤ c 0
    · have E := Lib.hid (show Z.ofV c = .tuple #[.agg Tryz.zeroCells94, .bool false] by
        unfold Z.ofV Z.ok
        rw [decide_eq_false (by omega), Z.zero]; rfl)
      go_enter Tryz.func69, Tryz.ntmps69
      go_wp2_with (refine wp_store_row' rfl 94 _ _ rfl ⟨w.heap.size + 1, 94, Tryz.zeroCells94, rfl, rfl, ⟨_, hz0, rfl⟩, hzi, hz1, ?_⟩; intro W' hP hR)
      exact bodyPost_ret (results_row_tmp Tryz.results69 _ _ (w.heap.size + 1) _ _ _ _ rfl hR.heap Tryz.underlying94 rfl hzi) rfl ⟨by rw [E.out]; rfl, hP.below ((hb0.alloc (by simp) _)) (by omega)⟩
    · have E := Lib.hid (show Z.ofV c = .tuple #[.agg (Z.sd c (Z.own c) (Z.oth c)), .bool true] by
        unfold Z.ofV Z.ok
        rw [decide_eq_true (by omega)]; rfl)
      have hw : IntKind.u8.wrap (1 - c 78) = 1 - c 78 := by rw [IntKind.wrap_u8]; omega
      go_enter Tryz.func69, Tryz.ntmps69
      go_wp2_with fail
      have hpW := hp.alloc (.cells Tryz.zeroCells94 94)
      have hbW := hb0.alloc (by simp) (.cells Tryz.zeroCells94 94)
      have hsz : ((w.alloc (.cells (posC c) 31)).alloc (.cells Tryz.zeroCells94 94)).heap.size = w.heap.size + 2 := by simp
      clear h0 h78 hp hb0
      obtain ⟨W, hW⟩ : ∃ W, ((w.alloc (.cells (posC c) 31)).alloc (.cells Tryz.zeroCells94 94)) = W := ⟨_, rfl⟩
      rw [hW] at hz0 hpW hbW hsz ⊢
      clear hW
      have h78 := hpW.cell (i := 78) (by decide)
      rw [show pk 78 = .u8 from rfl] at h78
      have l3 := hpW.lt
      have hheap := hpW.heap
      refine region_tail (n := 11) (by kernel_rfl) (by kernel_rfl) ?_
      simp only [List.take_succ_cons, List.take_zero, List.drop_succ_cons, List.drop_zero]
      repeat (first
        | (refine BigFrame.wpQuiet_want rfl (fun Kq hKq => quiet_load_pos _ rfl c ⟨_, _, _, rfl, fun w' ⟨p, e⟩ => (by rw [e, heap_grow _ _ _ _ l3]; exact hheap)⟩ (hKq _ ?_)))
        | (refine BigFrame.wpQuiet_want rfl (fun Kq hKq => quiet_build 94 _ rfl [(0, .agg (posC c)), (1, .int .u64 (U (Z.own c))), (2, .int .u64 (U (Z.oth c)))] (Z.sd c (Z.own c) (Z.oth c)) rfl (Z.built c (Z.own c) (Z.oth c)) (hKq _ ?_)))
        | quiet_step (first | (go_at_call 58; exact quiet_below (of_any c _ _ _ Hc.out))))
      refine wpQuiet_nil ?_
      intro W' hb'
      have hz' := (hb'.block (w.heap.size + 1) (by omega)).trans hz0
      have hB' := Lib.hid (below_next hbW hb')
      clear hz0 hpW hbW h78 hb' hheap
      go_wp2_with (refine wp_store_row' rfl 94 _ _ rfl ⟨w.heap.size + 1, 94, Z.sd c (Z.own c) (Z.oth c), rfl, rfl, ⟨_, hz', by rw [Z.sd_size]; rfl⟩, Z.info _ _ _, Z.sd_one _ _ _, ?_⟩; intro W2 hP hR)
      exact bodyPost_ret (results_row_tmp Tryz.results69 _ _ (w.heap.size + 1) _ _ _ _ rfl hR.heap Tryz.underlying94 rfl (Z.info _ _ _)) rfl ⟨by rw [E.out]; rfl, hP.below hB'.out (by omega)⟩
end Go.Proofs.YtgkndhpolcnjbaaGreatDoor
namespace Go.Proofs.YtgkndhpolcnjbaaGreatDoor
open Go.RowKit Go.Sort
attribute [local go_sem] Oper.semAt_some
namespace Z
def pout (c : Nat → Int) (h : BitVec 64) (s : Nat) : BitVec 64 := bAnd (R.pawn (c 78) (s : Int)) (bOr h (passing c))
def one (t s : Nat) : Nat := (ahead t (s : Int)).toNat
def from2 (c : Nat → Int) (r : Nat) : Bool := decide (r = 1) || (decide (r = 0) && (decide (c 0 = 7) && decide (c 78 = 0)))
/-- Where a pawn may go. -/
def pawn (c : Nat → Int) (o h : BitVec 64) (t s : Nat) : BitVec 64 :=
  if rank t s = 7 then pout c h s
  else if bit (bOr o h) (one t s) = true then pout c h s
  else if from2 c (rank t s) = true then bOr (bOr (pout c h s) (B.one (one t s : Nat))) (bAndn (B.one (one t (one t s) : Nat)) (bOr o h))
  else bOr (pout c h s) (B.one (one t s : Nat))
theorem ahead_one (t s : Nat) (hs : s < 64) (hr : rank t s ≠ 7) : ahead t (s : Int) = ((one t s : Nat) : Int) ∧ one t s < 64 := by
  unfold one ahead rank at *
  split at hr <;> simp_all <;> omega
theorem ahead_two (t s : Nat) (hs : s < 64) (hr : rank t s ≤ 1) : ahead t ((one t s : Nat) : Int) = ((one t (one t s) : Nat) : Int) ∧ one t (one t s) < 64 := by
  unfold one ahead rank at *
  split at hr <;> simp_all <;> omega
end Z
theorem quiet_load_rowZ {P : Program} {C : World → Prop} {K : Act → Prop} {a : Act} {o : Oper} (ty : TypeId) (x : Operand) (ho : o.op = .load ty x) (cs : Array Value) {d : TypeDesc} (hu : P.underlying ty = some d) (hd : (match d with | .struct _ | .array _ _ => true | _ => false) = true) (hi : (P.info? ty).map (·.size) = some cs.size)
    (hx : ∃ g t fr, a.eval x = .pointer (some ⟨g, 0, none⟩) ∧ ∀ w, C w → w.heap[g]? = some (.cells cs t fr)) (hk : K (a.put o.dst (.agg cs))) : o.quiet P a C K := by
  obtain ⟨g, t, fr, h1, hg⟩ := hx
  refine ⟨.agg cs, fun w hw => ?_, hk⟩
  unfold Oper.quietAt execOp
  simp only [ho, h1, Instr.loadAt, Instr.sureAddr, Sem.run_bind, Sem.run_pure, Result.andThen_ok, run_loadVar_row w g t ty cs fr d (hg w hw) hu hd hi]
  exact ⟨rfl, rfl⟩
set_option maxRecDepth 100000 in
set_option maxHeartbeats 8000000 in
theorem zpawn_any (c : Nat → Int) (o h : BitVec 64) (t s : Nat) (w : World) (hc : PosOk c) (hs : s < 64) (ht : c 78 = (t : Int)) (ht1 : t ≤ 1) :
    Calls Tryz.prog 198 #[.agg (Z.sd c o h), .int .i64 (s : Int)] w fun e w' => e = .returned (.int .u64 (U (Z.pawn c o h t s))) ∧ Below w.heap.size w w' := by
  have hp := RowAt.new w (Z.sd c o h) 94
  have hb0 : Below w.heap.size w (w.alloc (.cells (Z.sd c o h) 94)) := (Below.refl _ _).alloc (Nat.le_refl _) _
  obtain ⟨W, hW⟩ : ∃ W, w.alloc (.cells (Z.sd c o h) 94) = W := ⟨_, rfl⟩
  have Hc := Lib.hid hc
  obtain ⟨v0, v1⟩ := pos_u8 hc (i := 0) (by decide) rfl
  obtain ⟨v, hv⟩ : ∃ v : Nat, c 0 = (v : Int) := ⟨(c 0).toNat, by omega⟩
  rw [hW] at hp hb0
  have l3 := hp.lt
  have hheap := hp.heap
  have hown := (hp.cell 88).trans (Z.sd_own c o h)
  have hoth := (hp.cell 89).trans (Z.sd_oth c o h)
  have h78 := (hp.cell 78).trans (Z.sd_pos c o h 78 (by decide))
  rw [show pk 78 = .u8 from rfl, ht] at h78
  go_enter Tryz.func198, Tryz.ntmps198
  go_wp2_with fail
  refine region_below (by kernel_rfl) (by kernel_rfl) ?_
  repeat (first
    | (refine BigFrame.wpQuiet_want rfl (fun Kq hKq => quiet_load_rowZ 94 _ rfl (Z.sd c o h) Tryz.underlying94 rfl (Z.info _ _ _) ⟨_, _, _, rfl, fun w' ⟨p, e⟩ => (by rw [e, heap_grow _ _ _ _ l3]; exact hheap)⟩ (hKq _ ?_)))
    | quiet_step (first
      | (go_at_call 263; exact quiet_below (passing_any c _ _ _ Hc.out))
      | (go_at_call 135; exact quiet_below (pawn_any _ _ _))))
  refine wpQuiet_nil ?_
  intro W' hb'
  have hp2 := hp.below hb'
  have hb2 := below_next hb0 hb'
  clear hown hoth h78 hp hheap hb0 hb' l3 hW
  have hown := (hp2.cell 88).trans (Z.sd_own c o h)
  have hoth := (hp2.cell 89).trans (Z.sd_oth c o h)
  have h0 := (hp2.cell 0).trans (Z.sd_pos c o h 0 (by decide))
  rw [show pk 0 = .u8 from rfl, hv] at h0
  obtain ⟨r, hr⟩ : ∃ r, Z.rank t s = r := ⟨_, rfl⟩
  have HR : Hid (∀ (w : World) (T : Int), T = (t : Int) → Calls Tryz.prog 203 #[.int .u8 T, .int .i64 (s : Int)] w fun e w' => e = .returned (.int .i64 (r : Int)) ∧ w = w') := Lib.hid (fun w T e => by rw [e, ← hr]; exact rank_any t s w hs)
  obtain ⟨X, hX⟩ : ∃ X, bAnd (R.pawn (t : Int) (s : Int)) (bOr h (Z.passing c)) = X := ⟨_, rfl⟩
  rw [hX]
  have hXp : Z.pout c h s = X := by unfold Z.pout; rw [ht]; exact hX
  have Hb := Lib.hid hb2
  have HP : Hid (Z.pawn c o h t s = if r = 7 then X else if bit (bOr o h) (Z.one t s) = true then X else if Z.from2 c r = true then bOr (bOr X (B.one (Z.one t s : Nat))) (bAndn (B.one (Z.one t (Z.one t s) : Nat)) (bOr o h)) else bOr X (B.one (Z.one t s : Nat))) := Lib.hid (by unfold Z.pawn; rw [hr, hXp])
  clear hXp hX hb2 hp2
  by_cases h7 : r = 7
  · have H7 := Lib.hid h7
    have d7 : ((r : Int) == 7) = true := by simp; omega
    clear h7 hr
    go_wp2_with (go_at_call 203; refine (HR.out _ _ (by first | rfl | omega)).mono ?_; rintro e w' ⟨rfl, rfl⟩)
    go_ret
    exact ⟨ret_int (by rw [HP.out, if_pos H7.out]), Hb.out⟩
  · have hr7 := h7
    have H7 := Lib.hid h7
    have d7 : ((r : Int) == 7) = false := by simp; omega
    obtain ⟨ha, hn⟩ := Z.ahead_one t s hs (by rw [hr]; exact h7)
    have HA2 := Lib.hid (Z.ahead_two t s hs)
    obtain ⟨n, hne⟩ : ∃ n, Z.one t s = n := ⟨_, rfl⟩
    rw [hne] at ha hn HP HA2
    have HA : Hid (∀ (w : World) (T : Int), T = (t : Int) → Calls Tryz.prog 71 #[.int .u8 T, .int .i64 (s : Int)] w fun e w' => e = .returned (.int .i64 (n : Int)) ∧ w = w') := Lib.hid (fun w T e => by rw [e, ← ha]; exact ahead_any t s w (by omega) (by omega))
    have hwn : IntKind.u64.wrap (n : Int) = n := by rw [IntKind.wrap_u64]; omega
    have hone := B.one_val (n : Int) (by omega) (by omega)
    have hdiv : U (bOr o h) / 2 ^ n = U (bShr (bOr o h) n) := by have := bv_shr_nat (bOr o h) n; rwa [Nat.min_eq_left (by omega)] at this
    have hsh : bit (bShr (bOr o h) n) 0 = bit (bOr o h) n := by rw [bit_shr, Nat.add_zero]
    simp only [Int.toNat_natCast] at hone
    clear h7 ha hne
    by_cases hbt : bit (bOr o h) n = true
    · have hq : (bv1 (bit (bShr (bOr o h) n) 0) == 1) = true := by rw [hsh, hbt]; rfl
      have Hbt := Lib.hid hbt
      clear hsh hbt hr hr7
      go_wp2_with (first | (go_at_call 203; refine (HR.out _ _ (by first | rfl | omega)).mono ?_; rintro e w' ⟨rfl, rfl⟩) | (go_at_call 71; with_reducible refine (HA.out _ _ (by first | rfl | omega)).mono ?_; rintro e w' ⟨rfl, rfl⟩))
      go_ret
      exact ⟨ret_int (by rw [HP.out, if_neg H7.out, if_pos Hbt.out]), Hb.out⟩
    · have hq : (bv1 (bit (bShr (bOr o h) n) 0) == 1) = false := by rw [hsh, Bool.not_eq_true _ |>.mp hbt]; rfl
      have Hbt := Lib.hid hbt
      clear hsh hbt
      by_cases h1 : r = 1
      · have d1 : ((r : Int) == 1) = true := by simp; omega
        have HF := Lib.hid (show Z.from2 c r = true by unfold Z.from2; rw [hv, ht]; simp; omega)
        obtain ⟨hb1, hm⟩ := HA2.out (by rw [hr]; omega)
        obtain ⟨m, hme⟩ : ∃ m, Z.one t n = m := ⟨_, rfl⟩
        rw [hme] at hb1 hm HP
        have HB : Hid (∀ (w : World) (T : Int), T = (t : Int) → Calls Tryz.prog 71 #[.int .u8 T, .int .i64 (n : Int)] w fun e w' => e = .returned (.int .i64 (m : Int)) ∧ w = w') := Lib.hid (fun w T e => by rw [e, ← hb1]; exact ahead_any t n w (by omega) (by omega))
        have hwm : IntKind.u64.wrap (m : Int) = m := by rw [IntKind.wrap_u64]; omega
        have hone2 := B.one_val (m : Int) (by omega) (by omega)
        simp only [Int.toNat_natCast] at hone2
        clear hr hr7 hme hb1
        go_wp2_with (first | (go_at_call 203; refine (HR.out _ _ (by first | rfl | omega)).mono ?_; rintro e w' ⟨rfl, rfl⟩) | (go_at_call 71; with_reducible refine (HA.out _ _ (by first | rfl | omega)).mono ?_; rintro e w' ⟨rfl, rfl⟩) | (go_at_call 71; with_reducible refine (HB.out _ _ (by first | rfl | omega)).mono ?_; rintro e w' ⟨rfl, rfl⟩))
        go_ret
        exact ⟨ret_int (by rw [HP.out, if_neg H7.out, if_neg Hbt.out, if_pos HF.out]), Hb.out⟩
      · have d1 : ((r : Int) == 1) = false := by simp; omega
        by_cases h0r : r = 0
        · have d0 : ((r : Int) == 0) = true := by simp; omega
          by_cases hv7 : v = 7
          · have dv : ((v : Int) == 7) = true := by simp; omega
            by_cases ht0 : t = 0
            · have dt : ((t : Int) == 0) = true := by simp; omega
              have HF := Lib.hid (show Z.from2 c r = true by unfold Z.from2; rw [hv, ht]; simp; omega)
              obtain ⟨hb1, hm⟩ := HA2.out (by rw [hr]; omega)
              obtain ⟨m, hme⟩ : ∃ m, Z.one t n = m := ⟨_, rfl⟩
              rw [hme] at hb1 hm HP
              have HB : Hid (∀ (w : World) (T : Int), T = (t : Int) → Calls Tryz.prog 71 #[.int .u8 T, .int .i64 (n : Int)] w fun e w' => e = .returned (.int .i64 (m : Int)) ∧ w = w') := Lib.hid (fun w T e => by rw [e, ← hb1]; exact ahead_any t n w (by omega) (by omega))
              have hwm : IntKind.u64.wrap (m : Int) = m := by rw [IntKind.wrap_u64]; omega
              have hone2 := B.one_val (m : Int) (by omega) (by omega)
              simp only [Int.toNat_natCast] at hone2
              clear hr hr7 hme hb1
              go_wp2_with (first | (go_at_call 203; refine (HR.out _ _ (by first | rfl | omega)).mono ?_; rintro e w' ⟨rfl, rfl⟩) | (go_at_call 71; with_reducible refine (HA.out _ _ (by first | rfl | omega)).mono ?_; rintro e w' ⟨rfl, rfl⟩) | (go_at_call 71; with_reducible refine (HB.out _ _ (by first | rfl | omega)).mono ?_; rintro e w' ⟨rfl, rfl⟩))
              go_ret
              exact ⟨ret_int (by rw [HP.out, if_neg H7.out, if_neg Hbt.out, if_pos HF.out]), Hb.out⟩
            · have dt : ((t : Int) == 0) = false := by simp; omega
              have HF := Lib.hid (show ¬ Z.from2 c r = true by unfold Z.from2; rw [hv, ht]; simp; omega)
              clear hr hr7
              go_wp2_with (first | (go_at_call 203; refine (HR.out _ _ (by first | rfl | omega)).mono ?_; rintro e w' ⟨rfl, rfl⟩) | (go_at_call 71; with_reducible refine (HA.out _ _ (by first | rfl | omega)).mono ?_; rintro e w' ⟨rfl, rfl⟩))
              go_ret
              exact ⟨ret_int (by rw [HP.out, if_neg H7.out, if_neg Hbt.out, if_neg HF.out]), Hb.out⟩
          · have dv : ((v : Int) == 7) = false := by simp; omega
            have HF := Lib.hid (show ¬ Z.from2 c r = true by unfold Z.from2; rw [hv, ht]; simp; omega)
            clear hr hr7
            go_wp2_with (first | (go_at_call 203; refine (HR.out _ _ (by first | rfl | omega)).mono ?_; rintro e w' ⟨rfl, rfl⟩) | (go_at_call 71; with_reducible refine (HA.out _ _ (by first | rfl | omega)).mono ?_; rintro e w' ⟨rfl, rfl⟩))
            go_ret
            exact ⟨ret_int (by rw [HP.out, if_neg H7.out, if_neg Hbt.out, if_neg HF.out]), Hb.out⟩
        · have d0 : ((r : Int) == 0) = false := by simp; omega
          have HF := Lib.hid (show ¬ Z.from2 c r = true by unfold Z.from2; rw [hv, ht]; simp; omega)
          clear hr hr7
          go_wp2_with (first | (go_at_call 203; refine (HR.out _ _ (by first | rfl | omega)).mono ?_; rintro e w' ⟨rfl, rfl⟩) | (go_at_call 71; with_reducible refine (HA.out _ _ (by first | rfl | omega)).mono ?_; rintro e w' ⟨rfl, rfl⟩))
          go_ret
          exact ⟨ret_int (by rw [HP.out, if_neg H7.out, if_neg Hbt.out, if_neg HF.out]), Hb.out⟩
end Go.Proofs.YtgkndhpolcnjbaaGreatDoor
namespace Go.Proofs.YtgkndhpolcnjbaaGreatDoor
open Go.RowKit Go.Sort
/-- A position's cells lie in a box of a type that is T. -/
structure PosIn (w : World) (g : Nat) (T : TypeId) (c : Nat → Int) : Prop where
  heap : w.heap[g]? = some (.cells (posC c) T (0, 0))
section
variable {w w' w0 : World} {g b B : Nat} {T : TypeId} {c : Nat → Int}
theorem PosIn.lt (h : PosIn w g T c) : g < w.heap.size := (Array.getElem?_eq_some_iff.1 h.heap).1
theorem PosIn.row (h : PosIn w g T c) : RowAt w g T (posC c) := ⟨h.heap⟩
theorem PosIn.cell (h : PosIn w g T c) (i : Nat) (hi : i < 88) (k : IntKind) (hk : pk i = k) : w.cell? ⟨g, i, none⟩ = some (.int k (c i)) := by
  subst hk
  simp only [World.cell?, h.heap]; exact posC_get c i hi
theorem PosIn.bd (h : PosIn w g T c) (s : Nat) (hs : s < 64) : w.cell? ⟨g, 1 + s, none⟩ = some (.int .u8 (c (1 + s))) := h.cell _ (by omega) _ (pk_board hs)
theorem PosIn.frozen (h : PosIn w g T c) (i : Nat) : w.frozen? ⟨g, i, none⟩ = false := by simp [World.frozen?, h.heap]
theorem PosIn.below (h : PosIn w g T c) (hb : Below w.heap.size w w') : PosIn w' g T c := ⟨(hb.block g h.lt).trans h.heap⟩
theorem PosIn.belowB (h : PosIn w g T c) (hb : Below B w w') (hg : g < B) : PosIn w' g T c := ⟨(hb.block g hg).trans h.heap⟩
theorem PosIn.alloc (h : PosIn w g T c) (o : Obj) : PosIn (w.alloc o) g T c := ⟨(Below.heap_alloc _ _ _ h.lt).trans h.heap⟩
theorem PosIn.new (w : World) (T : TypeId) (c : Nat → Int) : PosIn (w.alloc (.cells (posC c) T)) w.heap.size T c := ⟨heap_alloc_new _ _⟩
end
theorem wp_load_midG {P : Program} {ops : Array Oper} {rest : List Oper} {o : Oper} {a : Act} {w : World} {Q : Exit → Act → World → Prop} (hw : Region.wanted o (yielded ops a.tmps) = true) (ty : TypeId) (x : Operand) (ho : o.op = .load ty x) {d : TypeDesc} (hu : P.underlying ty = some d) (hd : d.isRow = true)
    (h : ∃ (b off : Nat) (cs : List Value), a.eval x = .pointer (some ⟨b, off, none⟩) ∧ w.rangeAt b off cs ∧ (P.info? ty).map (·.size) = some cs.length ∧ wpList P ops Q rest (a.put o.dst (.agg cs.toArray)) w) : wpList P ops Q (o :: rest) a w := by
  obtain ⟨b, off, cs, hx, hp, hi, h⟩ := h
  refine wpList_step fun K hK => ?_
  rw [if_pos hw]
  exact wp_load_mid ty x ho b off hx cs d hp hu hd hi (hK _ _ h)
end Go.Proofs.YtgkndhpolcnjbaaGreatDoor
