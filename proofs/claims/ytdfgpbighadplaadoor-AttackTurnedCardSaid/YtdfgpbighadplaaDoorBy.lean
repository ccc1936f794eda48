/- The program's package attack: By. -/
import Derived.Test.YtdfgpbighadplaaDoorKinds
namespace Go.Proofs.YtdfgpbighadplaaDoor
open Go.RowKit Go.Sort
attribute [local go_sem] Oper.semAt_some

def K.there (s : Int) : Bool := decide (0 ≤ s) && decide (s < 64)
set_option maxRecDepth 100000 in
set_option maxHeartbeats 1000000 in
theorem there_any (s : Int) (w : World) :
    Calls Tryd.prog 25 #[.int .i64 s] w fun e w' => e = .returned (.bool (K.there s)) ∧ w = w' := by
  by_cases h : 0 ≤ s
  · by_cases h2 : s < 64
    · have H := Lib.hid (And.intro h h2)
      go_enter Tryd.func25, Tryd.ntmps25
      go_wp2
      go_ret
      exact ⟨ret_bool (by unfold K.there; have := H.out; simp; omega), rfl⟩
    · have H := Lib.hid (And.intro h h2)
      go_enter Tryd.func25, Tryd.ntmps25
      go_wp2
      go_ret
      exact ⟨ret_bool (by unfold K.there; have := H.out; simp; omega), rfl⟩
  · have H := Lib.hid h
    go_enter Tryd.func25, Tryd.ntmps25
    go_wp2
    go_ret
    exact ⟨ret_bool (by unfold K.there; have := H.out; simp; omega), rfl⟩
theorem there_eq (s : Int) (b : Bool) (w : World) (h : K.there s = b) :
    Calls Tryd.prog 25 #[.int .i64 s] w fun e w' => e = .returned (.bool b) ∧ w = w' := by rw [← h]; exact there_any s w

set_option maxRecDepth 100000 in
set_option maxHeartbeats 1000000 in
theorem kinds_any (w : World) : Calls Tryd.prog 27 #[] w fun e w' => e = .returned (.func (.func 39) #[] #[]) ∧ w = w' := by
  go_enter Tryd.func27, Tryd.ntmps27
  go_wp2
  go_ret
  exact ⟨rfl, rfl⟩

theorem wpIn_load_pos {n : Nat} {ops : Array Oper} {rest : List Oper} {o : Oper} {a : Act} {w : World} {Q : Exit → Act → World → Prop} (hgd : o.guard = none) (x : Operand) (ho : o.op = .load 31 x)
    (c : Nat → Int) (hx : ∃ g t fr, a.eval x = .pointer (some ⟨g, 0, none⟩) ∧ w.heap[g]? = some (.cells (posC c) t fr))
    (h : wpListIn Fence.wide n Tryd.prog ops Q rest (a.put o.dst (.agg (posC c))) w) : wpListIn Fence.wide n Tryd.prog ops Q (o :: rest) a w := by
  obtain ⟨g, t, fr, h1, hg⟩ := hx
  refine wpListIn_plain hgd fun K hK => ?_
  refine ⟨fun _ _ => trivial, ?_⟩
  have e : Oper.semAt Fence.wide.round a.eval o = execOp a.eval o := rfl
  rw [e]
  unfold execOp
  simp only [ho, h1, Instr.loadAt, Instr.sureAddr, Sem.run_bind, Sem.run_pure, Result.andThen_ok, run_loadVar_row w g t 31 (posC c) fr _ hg Tryd.underlying31 rfl (posC_info c)]
  exact hK _ _ h

namespace K
def oc (color : Int) : Int := (1 - color) % 256
def acc (c : Nat → Int) (s color : Int) (ks : List Nat) : BitVec 64 := ks.foldl (fun o k => bOr o (bAnd (hits k (oc color) s (S.all c)) (S.of c color k))) 0#64
def «by» (c : Nat → Int) (s color : Int) : BitVec 64 := if K.there s = true ∧ color ≤ 1 then acc c s color (upTo 7) else 0#64
end K

namespace K
/-- What By's variables hold between two rounds. -/
structure ByAt (c : Nat → Int) (s color : Int) (b3 b4 b5 b7 b8 : Nat) (w0 : World) (v : BitVec 64) (W : World) : Prop where
  pos : ∃ t fr, W.heap[b3]? = some (.cells (posC c) t fr)
  sq : W.cell? ⟨b4, 0, none⟩ = some (.int .i64 s)
  col : W.cell? ⟨b5, 0, none⟩ = some (.int .u8 color)
  occ : W.cell? ⟨b8, 0, none⟩ = some (.int .u64 (U (S.all c)))
  out : W.cell? ⟨b7, 0, none⟩ = some (.int .u64 (U v))
  fr : W.frozen? ⟨b7, 0, none⟩ = false
  below : Below w0.heap.size w0 W
variable {c : Nat → Int} {s color : Int} {b3 b4 b5 b7 b8 : Nat} {w0 : World} {v : BitVec 64}
theorem kept {W W' : World} {b : Nat} {v : Value} (h : W.cell? ⟨b, 0, none⟩ = some v) (hb : Below W.heap.size W W') : W'.cell? ⟨b, 0, none⟩ = some v :=
  (hb.cell (p := ⟨b, 0, none⟩) (World.block_lt_of_cell? W ⟨b, 0, none⟩ h)).trans h
theorem ByAt.grows : Grows (ByAt c s color b3 b4 b5 b7 b8 w0 v) := fun W _ h hb =>
  ⟨let ⟨t, fr, hg⟩ := h.pos; ⟨t, fr, (hb.block _ (Array.getElem?_eq_some_iff.1 hg).1).trans hg⟩, kept h.sq hb, kept h.col hb, kept h.occ hb, kept h.out hb,
   (hb.frozen (p := ⟨b7, 0, none⟩) (World.block_lt_of_cell? W ⟨b7, 0, none⟩ h.out)).trans h.fr, below_next h.below hb⟩
theorem ByAt.puts {B : Nat} (hB : w0.heap.size ≤ B) : Puts B (ByAt c s color b3 b4 b5 b7 b8 w0 v) := fun W l o o' h hl ho hn => by
  have hg := grownBy_putObj' W l o'
  have hr : ∀ r, some l = some r → ∃ o : Obj, W.heap[r]? = some o ∧ o.isCells = false := fun r e => by cases e; exact ⟨o, ho, hn⟩
  obtain ⟨t, fr, hp⟩ := h.pos
  refine ⟨⟨t, fr, (grownBy_keeps_cells hg hr hp rfl).trans hp⟩, cell_kept h.sq hg hr, cell_kept h.col hg hr, cell_kept h.occ hg hr, cell_kept h.out hg hr, (frozen_kept h.out hg hr).trans h.fr, ?_⟩
  exact h.below.grown hg h.below.size (fun k e => by cases e; omega)
theorem Ok.puts {k b B : Nat} : Puts B (Ok k b) := fun W l _ o' h _ ho hn => h.imp id fun h => cell_kept h (grownBy_putObj' W l o') (fun r e => by cases e; exact ⟨_, ho, hn⟩)
theorem OkX.puts {x : Nat × Nat} {B : Nat} : Puts B (OkX x) := fun W l _ o' h hl ho hn => ⟨h.1, h.2.1, Ok.puts W l _ o' h.2.2 hl ho hn⟩
theorem Kp.puts {B : Nat} (W0 : World) : Puts B (Kp B W0) := fun W l _ _ h hl ho hn => h.trans ⟨by simp, fun b u hb hu hc => by
  rw [World.putObj_heap_other (fun e => by subst e; rw [ho] at hu; cases hu; rw [hn] at hc; cases hc)]; exact hu⟩
theorem Kp.of_below {B : Nat} {W W' : World} (h : Below W.heap.size W W') : Kp B W W' := ⟨h.size, fun b _ _ ho _ => (h.block b (Array.getElem?_eq_some_iff.1 ho).1).trans ho⟩
theorem KeepsFrom.of_below {B : Nat} {W W' : World} (h : Below W.heap.size W W') : KeepsFrom B W W' := ⟨h.size, fun b _ _ ho _ => (h.block b (Array.getElem?_eq_some_iff.1 ho).1).trans ho⟩
/-- A store into By's own result. -/
theorem Kp.store {B : Nat} {W : World} {b : Nat} (h : b < B) (v : Value) : Kp B W (W.setCell ⟨b, 0, none⟩ v) := ⟨by simp, fun k o hk ho _ => (Below.heap_setCell W ⟨b, 0, none⟩ v k (by simp; omega)).trans ho⟩
theorem ByAt.store {W : World} (h : ByAt c s color b3 b4 b5 b7 b8 w0 v W) (hd : b3 ≠ b7 ∧ b4 ≠ b7 ∧ b5 ≠ b7 ∧ b8 ≠ b7 ∧ w0.heap.size ≤ b7) (v' : BitVec 64) : ByAt c s color b3 b4 b5 b7 b8 w0 v' (W.setCell ⟨b7, 0, none⟩ (.int .u64 (U v'))) := by
  obtain ⟨d3, d4, d5, d8, d7⟩ := hd
  have other : ∀ {b : Nat} {u : Value}, b ≠ b7 → W.cell? ⟨b, 0, none⟩ = some u → (W.setCell ⟨b7, 0, none⟩ (.int .u64 (U v'))).cell? ⟨b, 0, none⟩ = some u := fun hb hu => by
    rw [World.cell?_setCell_other _ _ _ _ (by intro e; exact hb (congrArg Addr.block e).symm)]; exact hu
  obtain ⟨t, fr, hp⟩ := h.pos
  exact ⟨⟨t, fr, (Below.heap_setCell W ⟨b7, 0, none⟩ _ b3 d3).trans hp⟩, other d4 h.sq, other d5 h.col, other d8 h.occ, World.cell?_setCell_same' _ _ _ (by rw [h.out]; rfl), by rw [World.frozen?_setCell]; exact h.fr, h.below.setCell (p := ⟨b7, 0, none⟩) d7 _⟩
end K

set_option maxRecDepth 100000 in
set_option maxHeartbeats 2000000 in
theorem by_in (c : Nat → Int) (s color : Int) (w : World) (hc : BdOk c) (hT : Tb w) (h1 : K.there s = true) (h2 : color ≤ 1) :
    Calls Tryd.prog 11 #[.agg (posC c), .int .i64 s, .int .u8 color] w fun e w' => e = .returned (.int .u64 (U (K.by c s color))) ∧ Below w.heap.size w w' := by
  have Hc := Lib.hid hc
  have HT := Lib.hid hT
  have Hs := Lib.hid h1
  clear hc hT h1
  refine (callsIn_wide (n := 6)).1 ?_
  refine callsIn_of_wp_marks Tryd.func11 rfl trivial ?_ rfl
  simp only [Tryd.ntmps11, List.size_toArray, List.length_cons, List.length_nil, Nat.reduceAdd, Nat.reduceSub, Array.replicate_succ, Array.replicate_zero, List.push_toArray, List.append_toArray, List.nil_append, List.cons_append]
  gi_wp2_with (first
    | (refine ⟨trivial, ?_⟩; gi_at_call 25; refine (callsIn_wide.2 (there_eq _ true _ Hs.out)).mono ?_; rintro e w' ⟨rfl, rfl⟩)
    | ((with_reducible refine wpIn_load_pos rfl _ rfl c ?_ ?_); · (exact ⟨_, _, _, rfl, by repeat (first | exact heap_alloc_new _ _ | assumption | refine (Below.heap_alloc _ _ _ (by simp <;> omega)).trans ?_)⟩))
    | (refine ⟨trivial, ?_⟩; gi_at_call 26; refine (callsIn_wide.2 (all_any c _ Hc.out)).mono ?_; rintro e w1 ⟨rfl, hb1⟩)
    | (refine ⟨trivial, ?_⟩; gi_at_call 27; refine (callsIn_wide.2 (kinds_any _)).mono ?_; rintro e w' ⟨rfl, rfl⟩))
  have hz1 := hb1.size
  simp at hz1
  have hA : K.ByAt c s color w.heap.size (w.heap.size + 1) (w.heap.size + 1 + 1) (w.heap.size + 1 + 1 + 1) w1.heap.size w (K.acc c s color []) (w1.alloc (.cells #[.int .u64 (U (S.all c))] 23)) := by
    have hb2 := below_next hb1 ((Below.refl _ w1).alloc (Nat.le_refl _) (.cells #[.int .u64 (U (S.all c))] 23))
    have hw : Below w.heap.size w ((((w.alloc (.cells (posC c) 31)).alloc (.cells #[.int .i64 s] 3)).alloc (.cells #[.int .u8 color] 5)).alloc (.cells #[.int .u64 0] 23)) :=
      ((((Below.refl _ _).alloc (Nat.le_refl _) _).alloc (by simp) _).alloc (by simp <;> omega) _).alloc (by simp <;> omega) _
    refine ⟨⟨_, _, (hb2.block _ (by simp <;> omega)).trans (by repeat (first | exact heap_alloc_new _ _ | refine (Below.heap_alloc _ _ _ (by simp <;> omega)).trans ?_))⟩, K.kept ?_ hb2, K.kept ?_ hb2, ?_, K.kept ?_ hb2, (hb2.frozen (p := ⟨w.heap.size + 1 + 1 + 1, 0, none⟩) (by simp)).trans ?_, hw.trans (hb2.mono (by simp <;> omega))⟩
    · simp [go_sem]
    · simp [go_sem]
    · rw [World.cell?_alloc_at _ _ _ _ rfl]; rfl
    · simp [go_sem, K.acc, U]
    · simp [go_sem]
  have hb8 : w1.heap.size < (w1.alloc (.cells #[.int .u64 (U (S.all c))] 23)).heap.size := by simp
  clear hb1
  revert hA hb8 hz1
  generalize w1.alloc (.cells #[.int .u64 (U (S.all c))] 23) = W0
  generalize w1.heap.size = b8
  intro hz1 hA hb8
  refine rangeFunc_tells (gf := 39) (lb := #[]) rfl (enters_of Tryd.func39 (by kernel_rfl) rfl) K.xenc (fun _ => rfl)
    (fun pre W => W0.heap.size ≤ W.heap.size ∧ K.ByAt c s color w.heap.size (w.heap.size + 1) (w.heap.size + 1 + 1) (w.heap.size + 1 + 1 + 1) b8 w (K.acc c s color (pre.map Prod.fst)) W) K.OkX (K.Kp W0.heap.size)
    (fun x a' W => ∃ Bx, W0.heap.size ≤ Bx ∧ W.cell? ⟨Bx, 0, none⟩ = some (K.fn x.1 x.2) ∧ a' = { tmps := #[.agg (posC c), .int .i64 s, .int .u8 color, .pointer (some ⟨w.heap.size, 0, none⟩), .pointer (some ⟨w.heap.size + 1, 0, none⟩), .pointer (some ⟨w.heap.size + 1 + 1, 0, none⟩), .int .u64 0, .pointer (some ⟨w.heap.size + 1 + 1 + 1, 0, none⟩), .pointer (some ⟨b8, 0, none⟩), .int .u8 (x.1 : Int), .pointer (some ⟨Bx, 0, none⟩), .int .i64 s, .bool true, .bool false, .bool false, .int .u8 color, .bool (decide (1 < color)), .bool (decide (1 < color)), .agg (posC c), .int .u64 (U (S.all c)), .func (.func 39) #[] #[], .int .u8 (x.1 : Int), .agg #[K.fn x.1 x.2], undef, undef, undef, undef, undef, undef, undef, undef, undef, undef, undef, undef, undef, undef, undef], defers := [] })
    (fun xs => xs.map Prod.fst = K.upTo 7)
    (fun _ _ _ h hb => ⟨Nat.le_trans h.1 hb.size, K.ByAt.grows _ _ h.2 hb⟩) (fun _ _ _ _ _ h hl ho hn => ⟨by simpa using h.1, K.ByAt.puts hA.below.size _ _ _ _ h.2 hl ho hn⟩) (fun _ => K.OkX.puts) ?ax (fun h k => h.trans k) (fun _ => K.Kp.puts _) (K.Kp.refl _) ?iter ⟨Nat.le_refl _, hA⟩ ?assign ?body ?done
  case ax =>
    rintro x a' W l o o' ⟨Bx, h1, h2, h3⟩ hl ho hn
    exact ⟨Bx, h1, cell_kept h2 (grownBy_putObj' W l o') (fun r e => by cases e; exact ⟨o, ho, hn⟩), h3⟩
  case iter =>
    intro l J W hW hJ h0 hY
    exact kinds1_tells 5 l W0.heap.size J W (by omega) hW.size hJ h0 hY
  case assign =>
    rintro l pre ⟨k, b⟩ W G ⟨hW0, hI⟩ hok hK
    obtain ⟨hk1, hk6, hko⟩ := hok
    have HK := Lib.hid hK
    clear hK
    simp only at hk1 hk6
    rcases (show k = 1 ∨ k = 2 ∨ k = 3 ∨ k = 4 ∨ k = 5 ∨ k = 6 by omega) with rfl | rfl | rfl | rfl | rfl | rfl
    all_goals
      simp only [K.xenc, K.fn, K.ptr]
      gi_wp2
      refine HK.out _ _ (K.KeepsFrom.of_below ?_) (K.Kp.of_below ?_) ⟨by simp <;> omega, K.ByAt.grows _ _ hI ?_⟩ ⟨hk1, hk6, hko.below ?_⟩ ⟨W.heap.size, hW0, ?_, rfl⟩
      all_goals first | exact (Below.refl _ _).alloc (Nat.le_refl _) _ | (rw [World.cell?_alloc_at _ _ _ _ rfl]; rfl)
  case body =>
    rintro l pre ⟨k, b⟩ a' W hl ⟨hW0, hI⟩ hok ⟨Bx, hBx, hcx, rfl⟩
    obtain ⟨hk1, hk6, hko⟩ := hok
    obtain ⟨t, fr, hp⟩ := hI.pos
    have hsq := hI.sq
    have hcol := hI.col
    have hocc := hI.occ
    have hout := hI.out
    have l3 := (Array.getElem?_eq_some_iff.1 hp).1
    have l4 := World.block_lt_of_cell? W _ hsq
    have l5 := World.block_lt_of_cell? W _ hcol
    have l8 := World.block_lt_of_cell? W _ hocc
    have l7 := World.block_lt_of_cell? W _ hout
    have lx := World.block_lt_of_cell? W _ hcx
    simp only at l4 l5 l8 l7 lx
    have HI := Lib.hid hI
    have HTW := Lib.hid (tb_below HT.out hI.below)
    clear hI
    simp only at hk1 hk6
    rcases (show k = 1 ∨ k = 2 ∨ k = 3 ∨ k = 4 ∨ k = 5 ∨ k = 6 by omega) with rfl | rfl | rfl | rfl | rfl | rfl
    · simp only [K.fn] at hcx ⊢
      have Hsn : Hid (K.acc c s color (pre.map Prod.fst ++ [1]) = bOr (K.acc c s color (pre.map Prod.fst)) (bAnd (R.pawn (K.oc color) s) (S.of c color 1))) := by
        refine Lib.hid ?_
        simp [K.acc, K.hits]
      refine wpIn_block ?_
      refine region_tail_in (N := 14) ?_ (by kernel_rfl) (by kernel_rfl) (by kernel_rfl) ?_
      · rintro ⟨a, w, h⟩
        exact absurd h.1 (by intro e; cases e)
      · simp only [List.take_succ_cons, List.take_zero, List.drop_succ_cons, List.drop_zero]
        repeat (first
          | (refine BigFrame.wpQuiet_want rfl (fun Kq hKq => quiet_load_pos _ rfl c ⟨_, t, fr, rfl, fun w' ⟨p, e⟩ => (by rw [e, heap_grow _ _ _ _ l3]; exact hp)⟩ (hKq _ ?_)))
          | quiet_step (first
            | (go_at_call 42; exact quiet_below (ways1_any _ _ _ _))
            | (go_at_call 28; exact quiet_below (of_any c _ _ _ Hc.out))))
        refine wpQuiet_nil ?_
        intro W' hb'
        have hA' := (K.ByAt.grows _ _ HI.out hb').store ⟨by omega, by omega, by omega, by omega, by omega⟩ (K.acc c s color (pre.map Prod.fst ++ [1]))
        have ho' := (K.ByAt.grows _ _ HI.out hb').out
        have hf' := (K.ByAt.grows _ _ HI.out hb').fr
        have hz' := hb'.size
        rw [Hsn.out] at hA'
        have HA' := Lib.hid hA'
        have HB' := Lib.hid hb'
        clear hA' hb'
        go_wp2
        refine ⟨(K.KeepsFrom.of_below HB'.out).trans ((KeepsOthers.setCell _ _ _).from _), (K.Kp.of_below HB'.out).trans (K.Kp.store (by omega) _), by omega, ?_⟩
        rw [Hsn.out]
        exact HA'.out
    · have hkc := hko.resolve_left (fun e => absurd e (by simp))
      have lb := World.block_lt_of_cell? W _ hkc
      simp only [K.inner] at hkc lb
      simp only [K.fn, K.ptr] at hcx ⊢
      have Hsn : Hid (K.acc c s color (pre.map Prod.fst ++ [2]) = bOr (K.acc c s color (pre.map Prod.fst)) (bAnd (R.knight s) (S.of c color 2))) := by
        refine Lib.hid ?_
        simp [K.acc, K.hits]
      refine wpIn_block ?_
      refine region_tail_in (N := 14) ?_ (by kernel_rfl) (by kernel_rfl) (by kernel_rfl) ?_
      · rintro ⟨a, w, h⟩
        exact absurd h.1 (by intro e; cases e)
      · simp only [List.take_succ_cons, List.take_zero, List.drop_succ_cons, List.drop_zero]
        repeat (first
          | (refine BigFrame.wpQuiet_want rfl (fun Kq hKq => quiet_load_pos _ rfl c ⟨_, t, fr, rfl, fun w' ⟨p, e⟩ => (by rw [e, heap_grow _ _ _ _ l3]; exact hp)⟩ (hKq _ ?_)))
          | quiet_step (first
            | (go_at_call 60; exact quiet_below (step1_knight _ _ _ _ _ ((cell_grow _ _ _ _ _ lb).trans hkc)))
            | (go_at_call 28; exact quiet_below (of_any c _ _ _ Hc.out))))
        refine wpQuiet_nil ?_
        intro W' hb'
        have hA' := (K.ByAt.grows _ _ HI.out hb').store ⟨by omega, by omega, by omega, by omega, by omega⟩ (K.acc c s color (pre.map Prod.fst ++ [2]))
        have ho' := (K.ByAt.grows _ _ HI.out hb').out
        have hf' := (K.ByAt.grows _ _ HI.out hb').fr
        have hz' := hb'.size
        rw [Hsn.out] at hA'
        have HA' := Lib.hid hA'
        have HB' := Lib.hid hb'
        clear hA' hb'
        go_wp2
        refine ⟨(K.KeepsFrom.of_below HB'.out).trans ((KeepsOthers.setCell _ _ _).from _), (K.Kp.of_below HB'.out).trans (K.Kp.store (by omega) _), by omega, ?_⟩
        rw [Hsn.out]
        exact HA'.out
    · have hkc := hko.resolve_left (fun e => absurd e (by simp))
      have lb := World.block_lt_of_cell? W _ hkc
      simp only [K.inner] at hkc lb
      simp only [K.fn, K.ptr] at hcx ⊢
      have Hsn : Hid (K.acc c s color (pre.map Prod.fst ++ [3]) = bOr (K.acc c s color (pre.map Prod.fst)) (bAnd (L.bishop s (S.all c)) (S.of c color 3))) := by
        refine Lib.hid ?_
        simp [K.acc, K.hits]
      refine wpIn_block ?_
      refine region_tail_in (N := 14) ?_ (by kernel_rfl) (by kernel_rfl) (by kernel_rfl) ?_
      · rintro ⟨a, w, h⟩
        exact absurd h.1 (by intro e; cases e)
      · simp only [List.take_succ_cons, List.take_zero, List.drop_succ_cons, List.drop_zero]
        repeat (first
          | (refine BigFrame.wpQuiet_want rfl (fun Kq hKq => quiet_load_pos _ rfl c ⟨_, t, fr, rfl, fun w' ⟨p, e⟩ => (by rw [e, heap_grow _ _ _ _ l3]; exact hp)⟩ (hKq _ ?_)))
          | quiet_step (first
            | (go_at_call 64; exact quiet_below (slide1_bishop _ _ _ _ _ (tb_below HTW.out (below_regrown _ _ _)) ((cell_grow _ _ _ _ _ lb).trans hkc)))
            | (go_at_call 28; exact quiet_below (of_any c _ _ _ Hc.out))))
        refine wpQuiet_nil ?_
        intro W' hb'
        have hA' := (K.ByAt.grows _ _ HI.out hb').store ⟨by omega, by omega, by omega, by omega, by omega⟩ (K.acc c s color (pre.map Prod.fst ++ [3]))
        have ho' := (K.ByAt.grows _ _ HI.out hb').out
        have hf' := (K.ByAt.grows _ _ HI.out hb').fr
        have hz' := hb'.size
        rw [Hsn.out] at hA'
        have HA' := Lib.hid hA'
        have HB' := Lib.hid hb'
        clear hA' hb'
        go_wp2
        refine ⟨(K.KeepsFrom.of_below HB'.out).trans ((KeepsOthers.setCell _ _ _).from _), (K.Kp.of_below HB'.out).trans (K.Kp.store (by omega) _), by omega, ?_⟩
        rw [Hsn.out]
        exact HA'.out
    · have hkc := hko.resolve_left (fun e => absurd e (by simp))
      have lb := World.block_lt_of_cell? W _ hkc
      simp only [K.inner] at hkc lb
      simp only [K.fn, K.ptr] at hcx ⊢
      have Hsn : Hid (K.acc c s color (pre.map Prod.fst ++ [4]) = bOr (K.acc c s color (pre.map Prod.fst)) (bAnd (L.rook s (S.all c)) (S.of c color 4))) := by
        refine Lib.hid ?_
        simp [K.acc, K.hits]
      refine wpIn_block ?_
      refine region_tail_in (N := 14) ?_ (by kernel_rfl) (by kernel_rfl) (by kernel_rfl) ?_
      · rintro ⟨a, w, h⟩
        exact absurd h.1 (by intro e; cases e)
      · simp only [List.take_succ_cons, List.take_zero, List.drop_succ_cons, List.drop_zero]
        repeat (first
          | (refine BigFrame.wpQuiet_want rfl (fun Kq hKq => quiet_load_pos _ rfl c ⟨_, t, fr, rfl, fun w' ⟨p, e⟩ => (by rw [e, heap_grow _ _ _ _ l3]; exact hp)⟩ (hKq _ ?_)))
          | quiet_step (first
            | (go_at_call 64; exact quiet_below (slide1_rook _ _ _ _ _ (tb_below HTW.out (below_regrown _ _ _)) ((cell_grow _ _ _ _ _ lb).trans hkc)))
            | (go_at_call 28; exact quiet_below (of_any c _ _ _ Hc.out))))
        refine wpQuiet_nil ?_
        intro W' hb'
        have hA' := (K.ByAt.grows _ _ HI.out hb').store ⟨by omega, by omega, by omega, by omega, by omega⟩ (K.acc c s color (pre.map Prod.fst ++ [4]))
        have ho' := (K.ByAt.grows _ _ HI.out hb').out
        have hf' := (K.ByAt.grows _ _ HI.out hb').fr
        have hz' := hb'.size
        rw [Hsn.out] at hA'
        have HA' := Lib.hid hA'
        have HB' := Lib.hid hb'
        clear hA' hb'
        go_wp2
        refine ⟨(K.KeepsFrom.of_below HB'.out).trans ((KeepsOthers.setCell _ _ _).from _), (K.Kp.of_below HB'.out).trans (K.Kp.store (by omega) _), by omega, ?_⟩
        rw [Hsn.out]
        exact HA'.out
    · have hkc := hko.resolve_left (fun e => absurd e (by simp))
      have lb := World.block_lt_of_cell? W _ hkc
      simp only [K.inner] at hkc lb
      simp only [K.fn, K.ptr] at hcx ⊢
      have Hsn : Hid (K.acc c s color (pre.map Prod.fst ++ [5]) = bOr (K.acc c s color (pre.map Prod.fst)) (bAnd (L.queen s (S.all c)) (S.of c color 5))) := by
        refine Lib.hid ?_
        simp [K.acc, K.hits]
      refine wpIn_block ?_
      refine region_tail_in (N := 14) ?_ (by kernel_rfl) (by kernel_rfl) (by kernel_rfl) ?_
      · rintro ⟨a, w, h⟩
        exact absurd h.1 (by intro e; cases e)
      · simp only [List.take_succ_cons, List.take_zero, List.drop_succ_cons, List.drop_zero]
        repeat (first
          | (refine BigFrame.wpQuiet_want rfl (fun Kq hKq => quiet_load_pos _ rfl c ⟨_, t, fr, rfl, fun w' ⟨p, e⟩ => (by rw [e, heap_grow _ _ _ _ l3]; exact hp)⟩ (hKq _ ?_)))
          | quiet_step (first
            | (go_at_call 64; exact quiet_below (slide1_queen _ _ _ _ _ (tb_below HTW.out (below_regrown _ _ _)) ((cell_grow _ _ _ _ _ lb).trans hkc)))
            | (go_at_call 28; exact quiet_below (of_any c _ _ _ Hc.out))))
        refine wpQuiet_nil ?_
        intro W' hb'
        have hA' := (K.ByAt.grows _ _ HI.out hb').store ⟨by omega, by omega, by omega, by omega, by omega⟩ (K.acc c s color (pre.map Prod.fst ++ [5]))
        have ho' := (K.ByAt.grows _ _ HI.out hb').out
        have hf' := (K.ByAt.grows _ _ HI.out hb').fr
        have hz' := hb'.size
        rw [Hsn.out] at hA'
        have HA' := Lib.hid hA'
        have HB' := Lib.hid hb'
        clear hA' hb'
        go_wp2
        refine ⟨(K.KeepsFrom.of_below HB'.out).trans ((KeepsOthers.setCell _ _ _).from _), (K.Kp.of_below HB'.out).trans (K.Kp.store (by omega) _), by omega, ?_⟩
        rw [Hsn.out]
        exact HA'.out
    · have hkc := hko.resolve_left (fun e => absurd e (by simp))
      have lb := World.block_lt_of_cell? W _ hkc
      simp only [K.inner] at hkc lb
      simp only [K.fn, K.ptr] at hcx ⊢
      have Hsn : Hid (K.acc c s color (pre.map Prod.fst ++ [6]) = bOr (K.acc c s color (pre.map Prod.fst)) (bAnd (R.king s) (S.of c color 6))) := by
        refine Lib.hid ?_
        simp [K.acc, K.hits]
      refine wpIn_block ?_
      refine region_tail_in (N := 14) ?_ (by kernel_rfl) (by kernel_rfl) (by kernel_rfl) ?_
      · rintro ⟨a, w, h⟩
        exact absurd h.1 (by intro e; cases e)
      · simp only [List.take_succ_cons, List.take_zero, List.drop_succ_cons, List.drop_zero]
        repeat (first
          | (refine BigFrame.wpQuiet_want rfl (fun Kq hKq => quiet_load_pos _ rfl c ⟨_, t, fr, rfl, fun w' ⟨p, e⟩ => (by rw [e, heap_grow _ _ _ _ l3]; exact hp)⟩ (hKq _ ?_)))
          | quiet_step (first
            | (go_at_call 60; exact quiet_below (step1_king _ _ _ _ _ ((cell_grow _ _ _ _ _ lb).trans hkc)))
            | (go_at_call 28; exact quiet_below (of_any c _ _ _ Hc.out))))
        refine wpQuiet_nil ?_
        intro W' hb'
        have hA' := (K.ByAt.grows _ _ HI.out hb').store ⟨by omega, by omega, by omega, by omega, by omega⟩ (K.acc c s color (pre.map Prod.fst ++ [6]))
        have ho' := (K.ByAt.grows _ _ HI.out hb').out
        have hf' := (K.ByAt.grows _ _ HI.out hb').fr
        have hz' := hb'.size
        rw [Hsn.out] at hA'
        have HA' := Lib.hid hA'
        have HB' := Lib.hid hb'
        clear hA' hb'
        go_wp2
        refine ⟨(K.KeepsFrom.of_below HB'.out).trans ((KeepsOthers.setCell _ _ _).from _), (K.Kp.of_below HB'.out).trans (K.Kp.store (by omega) _), by omega, ?_⟩
        rw [Hsn.out]
        exact HA'.out
  case done =>
    rintro D xs W hD hS ⟨_, hI⟩ hK
    have h7 := hI.out
    have hB := hI.below
    have e := Lib.hid (show K.by c s color = K.acc c s color (xs.map Prod.fst) by unfold K.by; rw [if_pos ⟨Hs.out, h2⟩, hS])
    clear hI hA
    gi_wp2
    refine ⟨by simp, .inl ⟨_, _, rfl, run_takeDeferred hK, ?_⟩⟩
    refine ⟨.int .u64 (U (K.by c s color)), ?_, rfl, ?_⟩
    · rw [e.out]
      simp [results, Tryd.results11, go_sem, hS]
    · exact hB.grown (grownBy_putObj' _ _ _) hB.size (fun k e => by cases e; omega)

end Go.Proofs.YtdfgpbighadplaaDoor
