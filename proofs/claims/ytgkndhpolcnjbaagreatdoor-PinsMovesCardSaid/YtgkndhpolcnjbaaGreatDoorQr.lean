/- Several texts in one: CastA, CastB. -/
import Derived.RangeFuncBox
import Derived.Test.YtgkndhpolcnjbaaGreatDoorQh
import Derived.Test.YtgkndhpolcnjbaaGreatDoorQd
namespace Go.Proofs.YtgkndhpolcnjbaaGreatDoor
open Go.RowKit Go.Sort
attribute [local go_sem] Oper.semAt_some
set_option maxRecDepth 100000 in
theorem goals_any (w : World) : Calls Tryz.prog 73 #[] w fun e w' => e = .returned (.agg #[.int .i64 6, .int .i64 5, .int .i64 2, .int .i64 3]) ∧ Below w.heap.size w w' := by
  go_enter Tryz.func73, Tryz.ntmps73
  go_wp2
  have hR := RowAt.new w #[.int .i64 6, .int .i64 5, .int .i64 2, .int .i64 3] 99
  exact bodyPost_ret (v := .agg #[.int .i64 6, .int .i64 5, .int .i64 2, .int .i64 3]) (results_cell_row Tryz.results73 _ _ w.heap.size 99 _ (0, 0) _ rfl hR.heap Tryz.underlying99 rfl (by kernel_rfl)) rfl ⟨rfl, (Below.refl _ _).alloc (Nat.le_refl _) _⟩
set_option maxRecDepth 100000 in
theorem home_any (color : Int) (w : World) (h : color = 0 ∨ color = 1) : Calls Tryz.prog 74 #[.int .u8 color] w fun e w' => e = .returned (.int .i64 (56 * color)) ∧ w = w' := by
  rcases h with rfl | rfl
  all_goals
    go_enter Tryz.func74, Tryz.ntmps74
    go_wp2
    go_ret
    exact ⟨rfl, rfl⟩
namespace T
def sq (x : Nat) : Fin 64 := ⟨x % 64, Nat.mod_lt _ (by decide)⟩
theorem sq_val (x : Nat) (h : x < 64) : (sq x).val = x := Nat.mod_eq_of_lt h
/-- The squares from one to another one, both counted. -/
def seg (a b : Nat) : List (Fin 64) := (List.range (max a b - min a b + 1)).map fun i => sq (i + min a b)
def upTo (a b n : Nat) : List (Fin 64) := (List.range n).map fun i => sq (i + min a b)
theorem upTo_succ (a b n : Nat) : upTo a b (n + 1) = upTo a b n ++ [sq (n + min a b)] := by simp [upTo, List.range_succ]
theorem upTo_len (a b n : Nat) : (upTo a b n).length = n := by simp [upTo]
theorem upTo_prefix (a b n : Nat) (h : n ≤ max a b - min a b + 1) : upTo a b n <+: seg a b := by
  refine ⟨((List.range (max a b - min a b + 1)).drop n).map fun i => sq (i + min a b), ?_⟩
  unfold upTo seg
  rw [← List.map_append]
  congr 1
  have : List.range n = (List.range (max a b - min a b + 1)).take n := by rw [List.take_range, Nat.min_eq_left h]
  rw [this, List.take_append_drop]
end T
set_option maxRecDepth 100000 in
theorem cfrom_any (n : Nat) (a b : Nat) (w : World) : CallsIn Fence.wide n Tryz.prog 256 #[.int .i64 (a : Int), .int .i64 (b : Int)] w fun e w' => e = .returned (.func (.func 288) #[] #[.pointer (some ⟨w.heap.size, 0, none⟩), .pointer (some ⟨w.heap.size + 1, 0, none⟩)]) ∧ w' = (w.alloc (.cells #[.int .i64 (a : Int)] 3)).alloc (.cells #[.int .i64 (b : Int)] 3) := by
  refine callsIn_wide.2 ?_
  go_enter Tryz.func256, Tryz.ntmps256
  go_wp2
  go_ret
  exact ⟨by simp, rfl⟩
set_option maxRecDepth 100000 in
set_option maxHeartbeats 2000000 in
theorem from1_in (n l Ba Bb n₀ a b : Nat) (J Jx : List (Fin 64) → World → Prop) (ha : a < 64) (hb : b < 64)
    (hY : ∀ (pre : List (Fin 64)) (x : Fin 64) W, J pre W → pre.length < (T.seg a b).length → YieldAt Fence.wide (n - 1) Tryz.prog l #[.int .i64 ((x.val : Nat) : Int)] W fun e W' =>
      (e = .returned (.bool true) ∧ J (pre ++ [x]) W' ∧ Below n₀ W W') ∨ (e = .returned (.bool false) ∧ Jx (pre ++ [x]) W'))
    (W : World) (hBa : Ba < n₀) (hBb : Bb < n₀) (ca : W.cell? ⟨Ba, 0, none⟩ = some (.int .i64 (a : Int))) (cb : W.cell? ⟨Bb, 0, none⟩ = some (.int .i64 (b : Int))) (h0 : J [] W) :
    CallsIn Fence.wide n Tryz.prog 288 #[.func (.yield l) #[] #[], .pointer (some ⟨Ba, 0, none⟩), .pointer (some ⟨Bb, 0, none⟩)] W fun e W' => (∃ v, e = .returned v) ∧
      ((∃ ys, ys = T.seg a b ∧ J ys W') ∨ (∃ pre, pre <+: T.seg a b ∧ Jx pre W')) := by
  refine callsIn_of_wp Tryz.func288 rfl trivial ?_ rfl
  simp only [Tryz.ntmps288, List.size_toArray, List.length_cons, List.length_nil, Nat.reduceAdd, Nat.reduceSub, Array.replicate_succ, Array.replicate_zero, List.push_toArray, List.append_toArray, List.nil_append, List.cons_append]
  obtain ⟨lo, hlo⟩ : ∃ lo : Nat, min a b = lo := ⟨_, rfl⟩
  obtain ⟨hi, hhi⟩ : ∃ hi : Nat, max a b = hi := ⟨_, rfl⟩
  have hlo' : min (a : Int) (b : Int) = (lo : Int) := by omega
  have hhi' : max (a : Int) (b : Int) = (hi : Int) := by omega
  have hlh : lo ≤ hi ∧ hi < 64 := by omega
  have hlen : (T.seg a b).length = hi - lo + 1 := by unfold T.seg; rw [hlo, hhi]; simp
  have hup : ∀ m, T.upTo a b (m + 1) = T.upTo a b m ++ [T.sq (m + lo)] := fun m => by rw [T.upTo_succ, hlo]
  have hsg : T.seg a b = T.upTo a b (hi - lo + 1) := by unfold T.seg T.upTo; rw [hlo, hhi]
  have hpf : ∀ m, m ≤ hi - lo + 1 → T.upTo a b m <+: T.seg a b := fun m hm => T.upTo_prefix a b m (by rw [hlo, hhi]; exact hm)
  rw [hlen] at hY
  have HY := Lib.hid hY
  have Hup := Lib.hid hup
  have Hsg := Lib.hid hsg
  have Hpf := Lib.hid hpf
  clear hY hup hsg hpf hlen hlo hhi
  gi_wp2
  gi_loopw [4] (fun v wr => ∃ m x : Nat, m ≤ hi - lo + 1 ∧ v = .int .i64 (x : Int) ∧ x = m + lo ∧ J (T.upTo a b m) wr ∧ wr.cell? ⟨Ba, 0, none⟩ = some (.int .i64 (a : Int)) ∧ wr.cell? ⟨Bb, 0, none⟩ = some (.int .i64 (b : Int))) (fun v _ => hi + 1 - (intOf v).toNat)
  case atStart => exact ⟨0, lo, by omega, rfl, by rw [Nat.zero_add], h0, ca, cb⟩
  case round =>
    obtain ⟨m, x, hm, rfl, hx, hJ, ca, cb⟩ := hrel
    by_cases hlt : m < hi - lo + 1
    · obtain ⟨fn, tmps, assign, body, hy, hR⟩ := HY.out (T.upTo a b m) (T.sq x) wr hJ (by rw [T.upTo_len]; exact hlt)
      rw [T.sq_val x (by omega)] at hy
      have h1 : (x : Int) ≤ (hi : Int) := by omega
      have Hx := Lib.hid hx
      clear hx
      gi_wp2
      refine ⟨fun h => by simp [Fence.wide] at h, hR.mono ?_⟩
      rintro e W3 (⟨rfl, hJ3, hk3⟩ | ⟨rfl, hJx3⟩)
      · have ca3 := (hk3.cell (p := ⟨Ba, 0, none⟩) hBa).trans ca
        have cb3 := (hk3.cell (p := ⟨Bb, 0, none⟩) hBb).trans cb
        gi_wp2
        go_roundw
        case rel => exact ⟨m + 1, x + 1, by omega, by go_num, by have := Hx.out; omega, by rw [Hup.out, ← Hx.out]; exact hJ3, ca3, cb3⟩
        case measure => simp [intOf]; have := Hx.out; omega
      · gi_wp2
        refine bodyPost_ret (results_none rfl _ _ _) rfl ?_
        exact ⟨⟨_, rfl⟩, .inr ⟨T.upTo a b m ++ [T.sq x], by rw [Hx.out, ← Hup.out]; exact Hpf.out (m + 1) (by omega), hJx3⟩⟩
    · have hme : m = hi - lo + 1 := by omega
      rw [hme, ← Hsg.out] at hJ
      have h1 : ¬ ((x : Int) ≤ (hi : Int)) := by omega
      gi_wp2
      go_end0
      exact ⟨⟨_, rfl⟩, .inl hJ⟩
theorem from1_stops (n Ba Bb n₀ a b : Nat) (ha : a < 64) (hb : b < 64) (w : World) (hBa : Ba < n₀) (hBb : Bb < n₀) (hn₀ : n₀ ≤ w.heap.size)
    (ca : w.cell? ⟨Ba, 0, none⟩ = some (.int .i64 (a : Int))) (cb : w.cell? ⟨Bb, 0, none⟩ = some (.int .i64 (b : Int))) :
    SeqStopsK Fence.wide n Tryz.prog 288 #[.pointer (some ⟨Ba, 0, none⟩), .pointer (some ⟨Bb, 0, none⟩)] (fun x : Fin 64 => #[Value.int .i64 ((x.val : Nat) : Int)]) (Below n₀) (fun ys => ys = T.seg a b) (fun pre => pre <+: T.seg a b) (T.seg a b).length w := fun l J Jx W hW _ _ hY h0 =>
  from1_in n l Ba Bb n₀ a b J Jx ha hb hY W hBa hBb ((hW.cell (p := ⟨Ba, 0, none⟩) (by show Ba < _; omega)).trans ca) ((hW.cell (p := ⟨Bb, 0, none⟩) (by show Bb < _; omega)).trans cb) h0
end Go.Proofs.YtgkndhpolcnjbaaGreatDoor
namespace Go.Proofs.YtgkndhpolcnjbaaGreatDoor
open Go.RowKit Go.Sort
attribute [local go_sem] Oper.semAt_some
set_option maxRecDepth 100000 in
set_option maxHeartbeats 2000000 in
theorem all_empty (a b Bm : Nat) (is : Nat → Bool) (w : World) (ha : a < 64) (hb : b < 64)
    (hok : ∀ (s : Nat), s < 64 → ∀ W, Below w.heap.size w W → Calls Tryz.prog 177 #[.int .i64 (s : Int), .pointer (some ⟨Bm, 0, none⟩)] W fun e W' => e = .returned (.bool (is s)) ∧ Below W.heap.size W W') :
    Calls Tryz.prog 179 #[.int .i64 (a : Int), .int .i64 (b : Int), .func (.func 177) #[] #[.pointer (some ⟨Bm, 0, none⟩)]] w fun e w' => e = .returned (.bool ((T.seg a b).all fun x => is x.val)) ∧ Below w.heap.size w w' := by
  have Hok := Lib.hid hok
  clear hok
  refine (callsIn_wide (n := 6)).1 ?_
  refine callsIn_of_wp_marks Tryz.func179 rfl trivial ?_ rfl
  simp only [Tryz.ntmps179, List.size_toArray, List.length_cons, List.length_nil, Nat.reduceAdd, Nat.reduceSub, Array.replicate_succ, Array.replicate_zero, List.push_toArray, List.append_toArray, List.nil_append, List.cons_append]
  gi_wp2_with (first
    | (refine ⟨trivial, ?_⟩; gi_at_call 256; refine (cfrom_any _ a b _).mono ?_; rintro e w' ⟨rfl, rfl⟩)
    | (gi_at_call 256; refine (cfrom_any _ a b _).mono ?_; rintro e w' ⟨rfl, rfl⟩))
  have bI := (((Boxed.new w 160 (.func (.func 177) #[] #[.pointer (some ⟨Bm, 0, none⟩)])).alloc (.cells #[.bool false] 4)).alloc (.cells #[.int .i64 (a : Int)] 3)).alloc (.cells #[.int .i64 (b : Int)] 3)
  have bR := ((Boxed.new (w.alloc (.cells #[.func (.func 177) #[] #[.pointer (some ⟨Bm, 0, none⟩)]] 160)) 4 (.bool false)).alloc (.cells #[.int .i64 (a : Int)] 3)).alloc (.cells #[.int .i64 (b : Int)] 3)
  have bA := (Boxed.new ((w.alloc (.cells #[.func (.func 177) #[] #[.pointer (some ⟨Bm, 0, none⟩)]] 160)).alloc (.cells #[.bool false] 4)) 3 (.int .i64 (a : Int))).alloc (.cells #[.int .i64 (b : Int)] 3)
  have bB := Boxed.new (((w.alloc (.cells #[.func (.func 177) #[] #[.pointer (some ⟨Bm, 0, none⟩)]] 160)).alloc (.cells #[.bool false] 4)).alloc (.cells #[.int .i64 (a : Int)] 3)) 3 (.int .i64 (b : Int))
  simp only [World.size_alloc] at bR bA bB
  have hB0 := (((((Below.refl w.heap.size w).alloc (Nat.le_refl _) (.cells #[.func (.func 177) #[] #[.pointer (some ⟨Bm, 0, none⟩)]] 160)).alloc (by simp) (.cells #[.bool false] 4)).alloc (by simp; omega) (.cells #[.int .i64 (a : Int)] 3)).alloc (by simp; omega) (.cells #[.int .i64 (b : Int)] 3))
  have hsz : ((((w.alloc (.cells #[.func (.func 177) #[] #[.pointer (some ⟨Bm, 0, none⟩)]] 160)).alloc (.cells #[.bool false] 4)).alloc (.cells #[.int .i64 (a : Int)] 3)).alloc (.cells #[.int .i64 (b : Int)] 3)).heap.size = w.heap.size + 4 := by simp
  obtain ⟨W0, hW0⟩ : ∃ W0, (((w.alloc (.cells #[.func (.func 177) #[] #[.pointer (some ⟨Bm, 0, none⟩)]] 160)).alloc (.cells #[.bool false] 4)).alloc (.cells #[.int .i64 (a : Int)] 3)).alloc (.cells #[.int .i64 (b : Int)] 3) = W0 := ⟨_, rfl⟩
  rw [hW0] at bI bR bA bB hB0 hsz ⊢
  clear hW0
  refine wpIn_rangeFunc_ownG rfl (by decide) (gf := 288) (lb := #[.pointer (some ⟨w.heap.size + 1 + 1, 0, none⟩), .pointer (some ⟨w.heap.size + 1 + 1 + 1, 0, none⟩)]) rfl trivial (enters_of Tryz.func288 (by kernel_rfl) rfl)
    (from1_stops _ (w.heap.size + 1 + 1) (w.heap.size + 1 + 1 + 1) W0.heap.size a b ha hb W0 (by omega) (by omega) (Nat.le_refl _) bA.cell bB.cell) belowK_t (belowK_b (by omega)) (Below.refl _ _) (fun _ => rfl)
    (fun pre W => (∀ x ∈ pre, is x.val = true) ∧ Below W0.heap.size W0 W)
    (fun c pre W => ((c = .ret ∧ ∃ x ∈ pre, is x.val = false) ∧ Boxed W (w.heap.size + 1) 4 (.bool false)) ∧ Below w.heap.size w W)
    (OwnFrom.and (ownFrom_pure _ _) (ownFrom_below (Nat.le_refl _) (Nat.le_refl _)))
    (fun c => OwnFrom.and (OwnFrom.and (ownFrom_pure _ _) (Own.from (boxed_own _ _ _) _)) (ownFrom_below (Nat.le_refl _) (by omega)))
    ⟨by simp, Below.refl _ _⟩
    (fun x => { tmps := #[.int .i64 (a : Int), .int .i64 (b : Int), .func (.func 177) #[] #[.pointer (some ⟨Bm, 0, none⟩)], undef, undef, .pointer (some ⟨w.heap.size, 0, none⟩), .pointer (some ⟨w.heap.size + 1, 0, none⟩), .int .i64 ((x.val : Nat) : Int), .int .i64 (a : Int), .int .i64 (b : Int), .func (.func 288) #[] #[.pointer (some ⟨w.heap.size + 1 + 1, 0, none⟩), .pointer (some ⟨w.heap.size + 1 + 1 + 1, 0, none⟩)], .int .i64 ((x.val : Nat) : Int), undef, undef, undef, undef], defers := [] })
    ?assign ?body ?done ?stop
  case assign =>
    intro l x W K hK
    gi_wp2
    exact hK
  case body =>
    rintro l pre x W ⟨hall, hBW⟩ hlt
    have hzW := hBW.size
    have hB1 : Below w.heap.size w W := hB0.trans (hBW.mono (by omega))
    have bI1 : Boxed W w.heap.size _ _ := (hBW.block _ bI.lt).trans bI
    have bR1 : Boxed W (w.heap.size + 1) _ _ := (hBW.block _ bR.lt).trans bR
    have cI := bI1.cell
    have cR := bR1.cell
    have fR := bR1.frozen
    have hx := x.isLt
    have Hx := Lib.hid (Hok.out x.val hx W hB1)
    gi_wp2
    refine ⟨trivial, (CallsIn.inRound l (callsIn_wide.2 Hx.out)).mono ?_⟩
    rintro e W2 ⟨rfl, hb2⟩
    have hb3 : Below W0.heap.size W W2 := hb2.mono hzW
    have bR2 : Boxed W2 (w.heap.size + 1) _ _ := (hb2.block _ bR1.lt).trans bR1
    have cR2 := bR2.cell
    have fR2 := bR2.frozen
    have hB2 : Below w.heap.size w W2 := below_next hB1 hb2
    cases hi : is x.val
    · gi_wp2
      exact ⟨(K.KeepsFrom.of_below hb2).trans ((KeepsOthers.setCell _ _ _).from _), ⟨⟨rfl, x, by simp, hi⟩, bR2.set _⟩, hB2.setCell (p := ⟨w.heap.size + 1, 0, none⟩) (by simp) _⟩
    · gi_wp2
      refine ⟨K.KeepsFrom.of_below hb2, hb3, fun y hy => ?_, hBW.trans hb3⟩
      rcases List.mem_append.1 hy with h | h
      · exact hall y h
      · rw [List.mem_singleton.1 h]; exact hi
  case done =>
    rintro D ys W hD rfl ⟨hall, hBW⟩ hK
    have hzW := hBW.size
    have hB1 : Below w.heap.size w W := hB0.trans (hBW.mono (by omega))
    have bR1 : Boxed W (w.heap.size + 1) _ _ := (hBW.block _ bR.lt).trans bR
    have cR := bR1.cell
    have fR := bR1.frozen
    gi_wp2
    have hK' := (KeepsOthers.setCell W ⟨w.heap.size + 1, 0, none⟩ (.bool true)).same D _ hK rfl
    refine ⟨by simp, .inl ⟨_, _, rfl, run_takeDeferred hK', ?_⟩⟩
    have hc5 := cell_kept (bR1.set (.bool true)).cell (grownBy_putObj' _ D (.deferred none)) (fun r e => by cases e; exact ⟨_, hK', rfl⟩)
    refine ⟨.bool true, ?_, ?_, (hB1.setCell (p := ⟨w.heap.size + 1, 0, none⟩) (by simp) _).trans (belowK_b (w := w) (Nat.le_refl _) _ D _ _ (by omega) hK' rfl rfl)⟩
    · simp [results, Tryz.results179, go_sem, hc5]
    · have : ((T.seg a b).all fun x => is x.val) = true := by
        rw [List.all_eq_true]; exact hall
      rw [this]
  case stop =>
    rintro D c pre W hD hpre ⟨⟨⟨rfl, x, hx, hi⟩, bR1⟩, hB1⟩ hK
    gi_wp2
    refine ⟨by simp, .inl ⟨_, _, rfl, run_takeDeferred hK, ?_⟩⟩
    have hc5 := cell_kept bR1.cell (grownBy_putObj' _ D (.deferred none)) (fun r e => by cases e; exact ⟨_, hK, rfl⟩)
    refine ⟨.bool false, ?_, ?_, hB1.trans (belowK_b (w := w) (Nat.le_refl _) W D _ _ (by omega) hK rfl rfl)⟩
    · simp [results, Tryz.results179, go_sem, hc5]
    · have : ((T.seg a b).all fun x => is x.val) = false := by
        rw [List.all_eq_false]; exact ⟨x, hpre.subset hx, by rw [hi]; simp⟩
      rw [this]
set_option maxRecDepth 100000 in
set_option maxHeartbeats 2000000 in
theorem all_safe (a b Bp Bo Bq : Nat) (is : Nat → Bool) (w : World) (ha : a < 64) (hb : b < 64)
    (hok : ∀ (s : Nat), s < 64 → ∀ W, Below w.heap.size w W → Calls Tryz.prog 178 #[.int .i64 (s : Int), .pointer (some ⟨Bp, 0, none⟩), .pointer (some ⟨Bo, 0, none⟩), .pointer (some ⟨Bq, 0, none⟩)] W fun e W' => e = .returned (.bool (is s)) ∧ Below W.heap.size W W') :
    Calls Tryz.prog 179 #[.int .i64 (a : Int), .int .i64 (b : Int), .func (.func 178) #[] #[.pointer (some ⟨Bp, 0, none⟩), .pointer (some ⟨Bo, 0, none⟩), .pointer (some ⟨Bq, 0, none⟩)]] w fun e w' => e = .returned (.bool ((T.seg a b).all fun x => is x.val)) ∧ Below w.heap.size w w' := by
  have Hok := Lib.hid hok
  clear hok
  refine (callsIn_wide (n := 6)).1 ?_
  refine callsIn_of_wp_marks Tryz.func179 rfl trivial ?_ rfl
  simp only [Tryz.ntmps179, List.size_toArray, List.length_cons, List.length_nil, Nat.reduceAdd, Nat.reduceSub, Array.replicate_succ, Array.replicate_zero, List.push_toArray, List.append_toArray, List.nil_append, List.cons_append]
  gi_wp2_with (first
    | (refine ⟨trivial, ?_⟩; gi_at_call 256; refine (cfrom_any _ a b _).mono ?_; rintro e w' ⟨rfl, rfl⟩)
    | (gi_at_call 256; refine (cfrom_any _ a b _).mono ?_; rintro e w' ⟨rfl, rfl⟩))
  have bI := (((Boxed.new w 160 (.func (.func 178) #[] #[.pointer (some ⟨Bp, 0, none⟩), .pointer (some ⟨Bo, 0, none⟩), .pointer (some ⟨Bq, 0, none⟩)])).alloc (.cells #[.bool false] 4)).alloc (.cells #[.int .i64 (a : Int)] 3)).alloc (.cells #[.int .i64 (b : Int)] 3)
  have bR := ((Boxed.new (w.alloc (.cells #[.func (.func 178) #[] #[.pointer (some ⟨Bp, 0, none⟩), .pointer (some ⟨Bo, 0, none⟩), .pointer (some ⟨Bq, 0, none⟩)]] 160)) 4 (.bool false)).alloc (.cells #[.int .i64 (a : Int)] 3)).alloc (.cells #[.int .i64 (b : Int)] 3)
  have bA := (Boxed.new ((w.alloc (.cells #[.func (.func 178) #[] #[.pointer (some ⟨Bp, 0, none⟩), .pointer (some ⟨Bo, 0, none⟩), .pointer (some ⟨Bq, 0, none⟩)]] 160)).alloc (.cells #[.bool false] 4)) 3 (.int .i64 (a : Int))).alloc (.cells #[.int .i64 (b : Int)] 3)
  have bB := Boxed.new (((w.alloc (.cells #[.func (.func 178) #[] #[.pointer (some ⟨Bp, 0, none⟩), .pointer (some ⟨Bo, 0, none⟩), .pointer (some ⟨Bq, 0, none⟩)]] 160)).alloc (.cells #[.bool false] 4)).alloc (.cells #[.int .i64 (a : Int)] 3)) 3 (.int .i64 (b : Int))
  simp only [World.size_alloc] at bR bA bB
  have hB0 := (((((Below.refl w.heap.size w).alloc (Nat.le_refl _) (.cells #[.func (.func 178) #[] #[.pointer (some ⟨Bp, 0, none⟩), .pointer (some ⟨Bo, 0, none⟩), .pointer (some ⟨Bq, 0, none⟩)]] 160)).alloc (by simp) (.cells #[.bool false] 4)).alloc (by simp; omega) (.cells #[.int .i64 (a : Int)] 3)).alloc (by simp; omega) (.cells #[.int .i64 (b : Int)] 3))
  have hsz : ((((w.alloc (.cells #[.func (.func 178) #[] #[.pointer (some ⟨Bp, 0, none⟩), .pointer (some ⟨Bo, 0, none⟩), .pointer (some ⟨Bq, 0, none⟩)]] 160)).alloc (.cells #[.bool false] 4)).alloc (.cells #[.int .i64 (a : Int)] 3)).alloc (.cells #[.int .i64 (b : Int)] 3)).heap.size = w.heap.size + 4 := by simp
  obtain ⟨W0, hW0⟩ : ∃ W0, (((w.alloc (.cells #[.func (.func 178) #[] #[.pointer (some ⟨Bp, 0, none⟩), .pointer (some ⟨Bo, 0, none⟩), .pointer (some ⟨Bq, 0, none⟩)]] 160)).alloc (.cells #[.bool false] 4)).alloc (.cells #[.int .i64 (a : Int)] 3)).alloc (.cells #[.int .i64 (b : Int)] 3) = W0 := ⟨_, rfl⟩
  rw [hW0] at bI bR bA bB hB0 hsz ⊢
  clear hW0
  refine wpIn_rangeFunc_ownG rfl (by decide) (gf := 288) (lb := #[.pointer (some ⟨w.heap.size + 1 + 1, 0, none⟩), .pointer (some ⟨w.heap.size + 1 + 1 + 1, 0, none⟩)]) rfl trivial (enters_of Tryz.func288 (by kernel_rfl) rfl)
    (from1_stops _ (w.heap.size + 1 + 1) (w.heap.size + 1 + 1 + 1) W0.heap.size a b ha hb W0 (by omega) (by omega) (Nat.le_refl _) bA.cell bB.cell) belowK_t (belowK_b (by omega)) (Below.refl _ _) (fun _ => rfl)
    (fun pre W => (∀ x ∈ pre, is x.val = true) ∧ Below W0.heap.size W0 W)
    (fun c pre W => ((c = .ret ∧ ∃ x ∈ pre, is x.val = false) ∧ Boxed W (w.heap.size + 1) 4 (.bool false)) ∧ Below w.heap.size w W)
    (OwnFrom.and (ownFrom_pure _ _) (ownFrom_below (Nat.le_refl _) (Nat.le_refl _)))
    (fun c => OwnFrom.and (OwnFrom.and (ownFrom_pure _ _) (Own.from (boxed_own _ _ _) _)) (ownFrom_below (Nat.le_refl _) (by omega)))
    ⟨by simp, Below.refl _ _⟩
    (fun x => { tmps := #[.int .i64 (a : Int), .int .i64 (b : Int), .func (.func 178) #[] #[.pointer (some ⟨Bp, 0, none⟩), .pointer (some ⟨Bo, 0, none⟩), .pointer (some ⟨Bq, 0, none⟩)], undef, undef, .pointer (some ⟨w.heap.size, 0, none⟩), .pointer (some ⟨w.heap.size + 1, 0, none⟩), .int .i64 ((x.val : Nat) : Int), .int .i64 (a : Int), .int .i64 (b : Int), .func (.func 288) #[] #[.pointer (some ⟨w.heap.size + 1 + 1, 0, none⟩), .pointer (some ⟨w.heap.size + 1 + 1 + 1, 0, none⟩)], .int .i64 ((x.val : Nat) : Int), undef, undef, undef, undef], defers := [] })
    ?assign ?body ?done ?stop
  case assign =>
    intro l x W K hK
    gi_wp2
    exact hK
  case body =>
    rintro l pre x W ⟨hall, hBW⟩ hlt
    have hzW := hBW.size
    have hB1 : Below w.heap.size w W := hB0.trans (hBW.mono (by omega))
    have bI1 : Boxed W w.heap.size _ _ := (hBW.block _ bI.lt).trans bI
    have bR1 : Boxed W (w.heap.size + 1) _ _ := (hBW.block _ bR.lt).trans bR
    have cI := bI1.cell
    have cR := bR1.cell
    have fR := bR1.frozen
    have hx := x.isLt
    have Hx := Lib.hid (Hok.out x.val hx W hB1)
    gi_wp2
    refine ⟨trivial, (CallsIn.inRound l (callsIn_wide.2 Hx.out)).mono ?_⟩
    rintro e W2 ⟨rfl, hb2⟩
    have hb3 : Below W0.heap.size W W2 := hb2.mono hzW
    have bR2 : Boxed W2 (w.heap.size + 1) _ _ := (hb2.block _ bR1.lt).trans bR1
    have cR2 := bR2.cell
    have fR2 := bR2.frozen
    have hB2 : Below w.heap.size w W2 := below_next hB1 hb2
    cases hi : is x.val
    · gi_wp2
      exact ⟨(K.KeepsFrom.of_below hb2).trans ((KeepsOthers.setCell _ _ _).from _), ⟨⟨rfl, x, by simp, hi⟩, bR2.set _⟩, hB2.setCell (p := ⟨w.heap.size + 1, 0, none⟩) (by simp) _⟩
    · gi_wp2
      refine ⟨K.KeepsFrom.of_below hb2, hb3, fun y hy => ?_, hBW.trans hb3⟩
      rcases List.mem_append.1 hy with h | h
      · exact hall y h
      · rw [List.mem_singleton.1 h]; exact hi
  case done =>
    rintro D ys W hD rfl ⟨hall, hBW⟩ hK
    have hzW := hBW.size
    have hB1 : Below w.heap.size w W := hB0.trans (hBW.mono (by omega))
    have bR1 : Boxed W (w.heap.size + 1) _ _ := (hBW.block _ bR.lt).trans bR
    have cR := bR1.cell
    have fR := bR1.frozen
    gi_wp2
    have hK' := (KeepsOthers.setCell W ⟨w.heap.size + 1, 0, none⟩ (.bool true)).same D _ hK rfl
    refine ⟨by simp, .inl ⟨_, _, rfl, run_takeDeferred hK', ?_⟩⟩
    have hc5 := cell_kept (bR1.set (.bool true)).cell (grownBy_putObj' _ D (.deferred none)) (fun r e => by cases e; exact ⟨_, hK', rfl⟩)
    refine ⟨.bool true, ?_, ?_, (hB1.setCell (p := ⟨w.heap.size + 1, 0, none⟩) (by simp) _).trans (belowK_b (w := w) (Nat.le_refl _) _ D _ _ (by omega) hK' rfl rfl)⟩
    · simp [results, Tryz.results179, go_sem, hc5]
    · have : ((T.seg a b).all fun x => is x.val) = true := by
        rw [List.all_eq_true]; exact hall
      rw [this]
  case stop =>
    rintro D c pre W hD hpre ⟨⟨⟨rfl, x, hx, hi⟩, bR1⟩, hB1⟩ hK
    gi_wp2
    refine ⟨by simp, .inl ⟨_, _, rfl, run_takeDeferred hK, ?_⟩⟩
    have hc5 := cell_kept bR1.cell (grownBy_putObj' _ D (.deferred none)) (fun r e => by cases e; exact ⟨_, hK, rfl⟩)
    refine ⟨.bool false, ?_, ?_, hB1.trans (belowK_b (w := w) (Nat.le_refl _) W D _ _ (by omega) hK rfl rfl)⟩
    · simp [results, Tryz.results179, go_sem, hc5]
    · have : ((T.seg a b).all fun x => is x.val) = false := by
        rw [List.all_eq_false]; exact ⟨x, hpre.subset hx, by rw [hi]; simp⟩
      rw [this]
end Go.Proofs.YtgkndhpolcnjbaaGreatDoor
