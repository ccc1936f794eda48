/- The program's package pseudo: who is to move (a position, two sets), passing, ranks, ahead. -/
import Derived.Test.YtlphjjekamhnlaaDoorLawX
import Derived.Test.YtlphjjekamhnlaaDoorRow
import Derived.Test.YtlphjjekamhnlaaDoorList
namespace Go.Proofs.YtlphjjekamhnlaaDoor
open Go.RowKit Go.Sort
attribute [local go_sem] Oper.semAt_some

namespace Z
/-- Who is to move: a position, its own men, the others. -/
def sd (c : Nat → Int) (o h : BitVec 64) : Array Value := posC c ++ #[.int .u64 (U o), .int .u64 (U h)]
theorem sd_size (c : Nat → Int) (o h : BitVec 64) : (sd c o h).size = 90 := by simp [sd, posC_size]
theorem sd_pos (c : Nat → Int) (o h : BitVec 64) (i : Nat) (hi : i < 88) : (sd c o h)[i]? = some (.int (pk i) (c i)) := by
  unfold sd
  rw [Array.getElem?_append_left (by rw [posC_size]; exact hi), posC_get c i hi]
theorem sd_own (c : Nat → Int) (o h : BitVec 64) : (sd c o h)[88]? = some (.int .u64 (U o)) := by
  unfold sd
  rw [Array.getElem?_append_right (by rw [posC_size]; omega), posC_size]; rfl
theorem sd_oth (c : Nat → Int) (o h : BitVec 64) : (sd c o h)[89]? = some (.int .u64 (U h)) := by
  unfold sd
  rw [Array.getElem?_append_right (by rw [posC_size]; omega), posC_size]; rfl
theorem sd_one (c : Nat → Int) (o h : BitVec 64) : (sd c o h).all (·.oneCell') = true := by
  unfold sd
  rw [Array.all_append, posC_one]; simp [Value.oneCell']
def own (c : Nat → Int) : BitVec 64 := S.of c (c 78) 0
def oth (c : Nat → Int) : BitVec 64 := S.of c (1 - c 78) 0
def passing (c : Nat → Int) : BitVec 64 := B.one (c 83)
def rank (t s : Nat) : Nat := if t = 1 then 7 - s / 8 else s / 8
def ahead (t : Nat) (s : Int) : Int := if t = 1 then s - 8 else s + 8
end Z
theorem pos_i8z {c : Nat → Int} (h : PosOk c) {i : Nat} (hi : i < 88) (hk : pk i = .i8) : -128 ≤ c i ∧ c i ≤ 127 := by
  have := h i hi
  rw [hk] at this
  exact bounds_i8 this
theorem Tryd.infoSd : (Tryd.prog.info? 51).map (·.size) = some 90 := by kernel_rfl
theorem Z.info (c : Nat → Int) (o h : BitVec 64) : (Tryd.prog.info? 51).map (·.size) = some (Z.sd c o h).size := by rw [Z.sd_size]; exact Tryd.infoSd
theorem Z.built (c : Nat → Int) (o h : BitVec 64) : Tryd.prog.built 51 [(0, .agg (posC c)), (1, .int .u64 (U o)), (2, .int .u64 (U h))] = some (Z.sd c o h) := by kernel_rfl

set_option maxRecDepth 100000 in
theorem passing_any (c : Nat → Int) (o h : BitVec 64) (w : World) (hc : PosOk c) :
    Calls Tryd.prog 116 #[.agg (Z.sd c o h)] w fun e w' => e = .returned (.int .u64 (U (Z.passing c))) ∧ Below w.heap.size w w' := by
  have hp := RowAt.new w (Z.sd c o h) 51
  have hb0 : Below w.heap.size w (w.alloc (.cells (Z.sd c o h) 51)) := (Below.refl _ _).alloc (Nat.le_refl _) _
  obtain ⟨p0, p1⟩ := pos_i8z hc (i := 83) (by decide) rfl
  have h83 := (hp.cell 83).trans (Z.sd_pos c o h 83 (by decide))
  rw [show pk 83 = .i8 from rfl] at h83
  obtain ⟨q, hq⟩ : ∃ q, c 83 = q := ⟨_, rfl⟩
  have Hq := Lib.hid (show Z.passing c = B.one q by unfold Z.passing; rw [hq])
  rw [hq] at h83 p0 p1
  clear hq
  by_cases h1 : q < 0
  · have e := Lib.hid (B.one_out q (.inl h1))
    go_enter Tryd.func116, Tryd.ntmps116
    go_wp2
    go_ret
    exact ⟨ret_int (by rw [Hq.out, e.out]; rfl), hb0⟩
  · by_cases h2 : 64 ≤ q
    · have e := Lib.hid (B.one_out q (.inr h2))
      go_enter Tryd.func116, Tryd.ntmps116
      go_wp2
      go_ret
      exact ⟨ret_int (by rw [Hq.out, e.out]; rfl), hb0⟩
    · have e := Lib.hid (B.one_val q (by omega) (by omega))
      have hw : IntKind.u64.wrap q = q := by rw [IntKind.wrap_u64]; omega
      go_enter Tryd.func116, Tryd.ntmps116
      go_wp2
      go_ret
      exact ⟨ret_int (by rw [Hq.out, e.out]), hb0⟩
theorem xor56 : ∀ s : Fin 64, (bits .xor .i64 ((s.val : Nat) : Int) 56) = (((s.val + 56 - 2 * (8 * (s.val / 8)) : Nat)) : Int) := by decide +kernel
set_option maxRecDepth 100000 in
theorem rank_any (t s : Nat) (w : World) (hs : s < 64) :
    Calls Tryd.prog 91 #[.int .u8 (t : Int), .int .i64 (s : Int)] w fun e w' => e = .returned (.int .i64 (Z.rank t s : Nat)) ∧ w = w' := by
  by_cases h : t = 1
  · subst h
    have hx := xor56 ⟨s, hs⟩
    simp only at hx
    have E := Lib.hid (show ((s + 56 - 2 * (8 * (s / 8)) : Nat) : Int) / 8 = (Z.rank 1 s : Nat) by
      unfold Z.rank; rw [if_pos rfl]
      omega)
    go_enter Tryd.func91, Tryd.ntmps91
    go_wp2
    go_ret
    exact ⟨ret_int (by rw [← E.out]), rfl⟩
  · have E := Lib.hid (show (s : Int) / 8 = (Z.rank t s : Nat) by
      unfold Z.rank; rw [if_neg h]
      omega)
    have h1 : decide ((t : Int) = 1) = false := by simp; omega
    go_enter Tryd.func91, Tryd.ntmps91
    go_wp2
    go_ret
    exact ⟨ret_int (by rw [← E.out]), rfl⟩
set_option maxRecDepth 100000 in
theorem ahead_any (t : Nat) (s : Int) (w : World) (h0 : -1000 ≤ s) (h1 : s ≤ 1000) :
    Calls Tryd.prog 62 #[.int .u8 (t : Int), .int .i64 s] w fun e w' => e = .returned (.int .i64 (Z.ahead t s)) ∧ w = w' := by
  have w1 : wrap64 (s - 8) = s - 8 := IntWalk.wrap64_in _ ⟨by omega, by omega⟩
  have w2 : wrap64 (s + 8) = s + 8 := IntWalk.wrap64_in _ ⟨by omega, by omega⟩
  by_cases h : t = 1
  · subst h
    have E := Lib.hid (show Z.ahead 1 s = s - 8 by unfold Z.ahead; rw [if_pos rfl])
    go_enter Tryd.func62, Tryd.ntmps62
    go_wp2
    go_ret
    exact ⟨ret_int (by rw [E.out]), rfl⟩
  · have E := Lib.hid (show Z.ahead t s = s + 8 by unfold Z.ahead; rw [if_neg h])
    have h1 : decide ((t : Int) = 1) = false := by simp; omega
    go_enter Tryd.func62, Tryd.ntmps62
    go_wp2
    go_ret
    exact ⟨ret_int (by rw [E.out]), rfl⟩
theorem Z.zero : Tryd.zeroCells51 = Z.sd (fun _ => 0) 0#64 0#64 := by kernel_rfl
theorem results_row_tmp {P : Program} {fn : Func} {p u : Tmp} {ty : TypeId} (h : fn.results = #[.cell p ty, .tmp u]) (tmps : Array Value) (w : World) (g : Nat) (t : TypeId) (cs : Array Value) (fr : Nat × Nat) (d : TypeDesc)
    (hp : tmps.getD p undef = .pointer (some ⟨g, 0, none⟩)) (hg : w.heap[g]? = some (.cells cs t fr))
    (hu : P.underlying ty = some d) (hd : (match d with | .struct _ | .array _ _ => true | _ => false) = true) (hi : (P.info? ty).map (·.size) = some cs.size) :
    (results fn tmps).run P w = .ok (.tuple #[.agg cs, tmps.getD u undef]) w := by
  rw [results_cell_tmp h, hp]
  simp [asAddr, run_loadVar_row w g t ty cs fr d hg hu hd hi, Result.andThen]
theorem quiet_build {P : Program} {C : World → Prop} {K : Act → Prop} {a : Act} {o : Oper} (t : TypeId) (parts : Array (Nat × Operand)) (ho : o.op = .build t parts) (l : List (Nat × Value)) (cells : Array Value)
    (hl : (parts.toList.map fun q => (q.1, a.eval q.2)) = l) (hb : P.built t l = some cells) (hk : K (a.put o.dst (.agg cells))) : o.quiet P a C K := by
  subst hl
  refine ⟨.agg cells, fun w _ => ?_, hk⟩
  unfold Oper.quietAt execOp
  simp only [ho]
  have h := run_build w t (parts.map fun (i, x) => (i, a.eval x)) cells (by rw [Array.toList_map]; exact hb)
  simp only [Sem.run_bind, h, Result.andThen_ok, Sem.run_pure]
  exact ⟨rfl, rfl⟩
namespace Z
def ok (c : Nat → Int) : Bool := decide (c 78 ≤ 1 ∧ c 0 < 9)
def ofV (c : Nat → Int) : Value := if ok c then .tuple #[.agg (sd c (own c) (oth c)), .bool true] else .tuple #[.agg (sd (fun _ => 0) 0#64 0#64), .bool false]
end Z
set_option maxRecDepth 100000 in
set_option maxHeartbeats 1000000 in
theorem pof_any (c : Nat → Int) (w : World) (hc : PosOk c) :
    Calls Tryd.prog 25 #[.agg (posC c)] w fun e w' => e = .returned (Z.ofV c) ∧ Below w.heap.size w w' := by
  have hcb := pos_bd hc
  have Hc := Lib.hid hcb
  clear hcb
  have hb0 : Below w.heap.size w (w.alloc (.cells (posC c) 31)) := (Below.refl _ _).alloc (Nat.le_refl _) _
  have hp := PosAt.new w c
  obtain ⟨v0, v1⟩ := pos_u8 hc (i := 0) (by decide) rfl
  obtain ⟨t0, t1⟩ := pos_u8 hc (i := 78) (by decide) rfl
  have h0 := hp.cell (i := 0) (by decide)
  rw [show pk 0 = .u8 from rfl] at h0
  have h78 := hp.cell (i := 78) (by decide)
  rw [show pk 78 = .u8 from rfl] at h78
  have hz0 : ((w.alloc (.cells (posC c) 31)).alloc (.cells Tryd.zeroCells51 51)).heap[w.heap.size + 1]? = some (.cells Tryd.zeroCells51 51 (0, 0)) := by
    have := heap_alloc_new (w.alloc (.cells (posC c) 31)) (.cells Tryd.zeroCells51 51)
    rwa [World.size_alloc] at this
  have hzi : (Tryd.prog.info? 51).map (·.size) = some Tryd.zeroCells51.size := by rw [Z.zero]; exact Z.info _ _ _
  have hz1 : Tryd.zeroCells51.all (·.oneCell') = true := by rw [Z.zero]; exact Z.sd_one _ _ _
  by_cases h1 : 1 < c 78
  · have E := Lib.hid (show Z.ofV c = .tuple #[.agg Tryd.zeroCells51, .bool false] by
      unfold Z.ofV Z.ok
      rw [decide_eq_false (by omega), Z.zero]; rfl)
    go_enter Tryd.func25, Tryd.ntmps25
    go_wp2_with (refine wp_store_row' rfl 51 _ _ rfl ⟨w.heap.size + 1, 51, Tryd.zeroCells51, rfl, rfl, ⟨_, hz0, rfl⟩, hzi, hz1, ?_⟩; intro W' hP hR)
    exact bodyPost_ret (results_row_tmp Tryd.results25 _ _ (w.heap.size + 1) _ _ _ _ rfl hR.heap Tryd.underlying51 rfl hzi) rfl ⟨by rw [E.out]; rfl, hP.below ((hb0.alloc (by simp) _)) (by omega)⟩
  · by_cases h2 : 9 ≤ c 0
    · have E := Lib.hid (show Z.ofV c = .tuple #[.agg Tryd.zeroCells51, .bool false] by
        unfold Z.ofV Z.ok
        rw [decide_eq_false (by omega), Z.zero]; rfl)
      go_enter Tryd.func25, Tryd.ntmps25
      go_wp2_with (refine wp_store_row' rfl 51 _ _ rfl ⟨w.heap.size + 1, 51, Tryd.zeroCells51, rfl, rfl, ⟨_, hz0, rfl⟩, hzi, hz1, ?_⟩; intro W' hP hR)
      exact bodyPost_ret (results_row_tmp Tryd.results25 _ _ (w.heap.size + 1) _ _ _ _ rfl hR.heap Tryd.underlying51 rfl hzi) rfl ⟨by rw [E.out]; rfl, hP.below ((hb0.alloc (by simp) _)) (by omega)⟩
    · have E := Lib.hid (show Z.ofV c = .tuple #[.agg (Z.sd c (Z.own c) (Z.oth c)), .bool true] by
        unfold Z.ofV Z.ok
        rw [decide_eq_true (by omega)]; rfl)
      have hw : IntKind.u8.wrap (1 - c 78) = 1 - c 78 := by rw [IntKind.wrap_u8]; omega
      go_enter Tryd.func25, Tryd.ntmps25
      go_wp2_with fail
      have hpW := hp.alloc (.cells Tryd.zeroCells51 51)
      have hbW := hb0.alloc (by simp) (.cells Tryd.zeroCells51 51)
      have hsz : ((w.alloc (.cells (posC c) 31)).alloc (.cells Tryd.zeroCells51 51)).heap.size = w.heap.size + 2 := by simp
      clear h0 h78 hp hb0
      obtain ⟨W, hW⟩ : ∃ W, ((w.alloc (.cells (posC c) 31)).alloc (.cells Tryd.zeroCells51 51)) = W := ⟨_, rfl⟩
      rw [hW] at hz0 hpW hbW hsz ⊢
      clear hW
      have h78 := hpW.cell (i := 78) (by decide)
      rw [show pk 78 = .u8 from rfl] at h78
      have l3 := hpW.lt
      have hheap := hpW.heap
      refine region_tail (n := 11) (by kernel_rfl) (by kernel_rfl) ?_
      simp only [List.take_succ_cons, List.take_zero, List.drop_succ_cons, List.drop_zero]
      repeat (first
        | (refine BigFrame.wpQuiet_want rfl (fun Kq hKq => quiet_load_pos _ rfl c ⟨_, _, _, rfl, fun w' ⟨p, e⟩ => (by rw [e, heap_grow _ _ _ _ l3]; exact hheap)⟩ (hKq _ ?_)))
        | (refine BigFrame.wpQuiet_want rfl (fun Kq hKq => quiet_build 51 _ rfl [(0, .agg (posC c)), (1, .int .u64 (U (Z.own c))), (2, .int .u64 (U (Z.oth c)))] (Z.sd c (Z.own c) (Z.oth c)) rfl (Z.built c (Z.own c) (Z.oth c)) (hKq _ ?_)))
        | quiet_step (first | (go_at_call 51; exact quiet_below (of_any c _ _ _ Hc.out))))
      refine wpQuiet_nil ?_
      intro W' hb'
      have hz' := (hb'.block (w.heap.size + 1) (by omega)).trans hz0
      have hB' := Lib.hid (below_next hbW hb')
      clear hz0 hpW hbW h78 hb' hheap
      go_wp2_with (refine wp_store_row' rfl 51 _ _ rfl ⟨w.heap.size + 1, 51, Z.sd c (Z.own c) (Z.oth c), rfl, rfl, ⟨_, hz', by rw [Z.sd_size]; rfl⟩, Z.info _ _ _, Z.sd_one _ _ _, ?_⟩; intro W2 hP hR)
      exact bodyPost_ret (results_row_tmp Tryd.results25 _ _ (w.heap.size + 1) _ _ _ _ rfl hR.heap Tryd.underlying51 rfl (Z.info _ _ _)) rfl ⟨by rw [E.out]; rfl, hP.below hB'.out (by omega)⟩
end Go.Proofs.YtlphjjekamhnlaaDoor
