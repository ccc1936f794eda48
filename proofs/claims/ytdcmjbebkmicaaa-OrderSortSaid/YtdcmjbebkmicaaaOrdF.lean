/- The program's package order: First. -/
import Derived.Test.YtdcmjbebkmicaaaOrdI
namespace Go.Proofs.Ytdcmjbebkmicaaa
open Go.RowKit Go.Sort Go.Lib

namespace O
/-- One is put to the front, if it is there. -/
def first (l : List Mv) (m : Mv) : List Mv := if m ∈ l then m :: l.erase m else l
theorem erase_at (m : Mv) : ∀ (l : List Mv) (i : Nat), l[i]? = some m → M.noneTo l m i → l.erase m = l.take i ++ l.drop (i + 1)
  | [], i, h, _ => by cases h
  | a :: l, 0, h, _ => by
    have : a = m := by simpa using h
    subst this
    simp
  | a :: l, i + 1, h, hn => by
    have hne : a ≠ m := fun e => hn 0 (by omega) (by simp [e])
    rw [List.erase_cons_tail (by simpa using hne), erase_at m l i (by simpa using h) (fun j hj e => hn (j + 1) (by omega) (by simpa using e))]
    rfl
theorem first_found (l : List Mv) (m : Mv) (i : Nat) (h : l[i]? = some m) (hn : M.noneTo l m i) : first l m = m :: (l.take i ++ l.drop (i + 1)) := by
  unfold first
  rw [if_pos (List.mem_of_getElem? h), erase_at m l i h hn]
theorem first_none (l : List Mv) (m : Mv) (hn : M.noneTo l m l.length) : first l m = l := by
  unfold first
  rw [if_neg]
  intro h
  obtain ⟨i, hi, e⟩ := List.mem_iff_getElem.1 h
  exact hn i hi (by rw [List.getElem?_eq_getElem hi, e])
theorem first_len (l : List Mv) (m : Mv) : (first l m).length = l.length := by
  unfold first
  split
  · rename_i h
    have := List.length_erase_of_mem h
    have h0 : 0 < l.length := List.length_pos_of_mem h
    simp only [List.length_cons, this]
    omega
  · rfl
end O

/-- The address of a slice's rest. -/
def M.offAt (off cap i : Nat) : Nat := if cap = i then off else off + i * 5
theorem slice_to (b off n cap i : Nat) (w : World) (h : i < n) (hn : n ≤ cap) :
    (Instr.sliceAt 40 (.slice (some ⟨b, off, none⟩) n cap) none (some (.int .i64 (i : Int))) none).run Try.prog w = .ok (.slice (some ⟨b, off, none⟩) i cap) w := by
  have hi : (i : Int) ≤ (cap : Int) := by omega
  simp [go_sem, hi]
theorem slice_from (b off n cap i : Nat) (w : World) (h : i ≤ n) :
    (Instr.sliceAt 40 (.slice (some ⟨b, off, none⟩) n cap) (some (.int .i64 (i : Int))) none none).run Try.prog w = .ok (.slice (some ⟨b, M.offAt off cap i, none⟩) (n - i) (cap - i)) w := by
  have hi : (i : Int) ≤ (n : Int) := by omega
  unfold M.offAt
  by_cases hc : cap = i
  · simp [go_sem, hi, hc]
  · simp [go_sem, hi, hc]
theorem yi_load_mv {ops : Array Oper} {S : World → Prop} {a : Act} {o : Oper} (hw : Region.wanted o (yielded ops a.tmps) = true) (x : Operand) (ho : o.op = .load 33 x) (g : Nat) (T : TypeId) (cs : Array Value) (hx : a.eval x = .pointer (some ⟨g, 0, none⟩))
    (hs : cs.size = 5) (hS : ∀ w, S w → RowAt w g T cs) : YieldsIf Try.prog ops S o (.agg cs) a :=
  .inl ⟨hw, fun w h => by
    unfold execOp
    simp only [ho, hx, Instr.loadAt, Instr.sureAddr, Sem.run_bind, Sem.run_pure, Result.andThen_ok, run_loadVar_row _ g T 33 cs (0, 0) _ (hS w h).heap Try.underlying33 rfl (Try.info_mv _ hs)]⟩
theorem exec_slice {ev : Operand → Value} {o : Oper} {x y : Operand} {vx vy v : Value} {w : World} (h : (Instr.sliceAt 40 vx none (some vy) none).run Try.prog w = .ok v w) (ho : o.op = .slice 40 x none (some y) none := by kernel_rfl) (hx : ev x = vx := by kernel_rfl) (hy : ev y = vy := by kernel_rfl) :
    (execOp ev o).run Try.prog w = .ok (.value v) w := by
  unfold execOp
  simp only [ho, hx, Option.map_some, Option.map_none, hy, Sem.run_bind, h, Result.andThen_ok, Sem.run_pure]
theorem exec_slice2 {ev : Operand → Value} {o : Oper} {x y : Operand} {vx vy v : Value} {w : World} (h : (Instr.sliceAt 40 vx (some vy) none none).run Try.prog w = .ok v w) (ho : o.op = .slice 40 x (some y) none none := by kernel_rfl) (hx : ev x = vx := by kernel_rfl) (hy : ev y = vy := by kernel_rfl) :
    (execOp ev o).run Try.prog w = .ok (.value v) w := by
  unfold execOp
  simp only [ho, hx, Option.map_some, Option.map_none, hy, Sem.run_bind, h, Result.andThen_ok, Sem.run_pure]
theorem M.reads_take {w : World} {l : List Mv} {b off cap : Nat} (i : Nat) (h : Reads w (.slice (some ⟨b, off, none⟩) l.length cap) l) (hi : i < l.length) : Reads w (.slice (some ⟨b, off, none⟩) i cap) (l.take i) := by
  obtain ⟨ao, cap', h1, h2, h3, h4, h5⟩ := h
  injection h1 with e1 e2 e3
  subst e3
  have hl : (l.take i).length = i := by rw [List.length_take]; omega
  refine ⟨_, cap, by rw [hl], by omega, h3, (fun e => by cases e), fun h0 => ?_⟩
  obtain ⟨b', off', k1, k2, k3⟩ := h5 (by omega)
  rw [← e1] at k1
  injection k1 with k1
  injection k1 with k1 k1'
  subst k1 k1'
  refine ⟨b, off, rfl, k2, fun j u hu => k3 j u ?_⟩
  rw [← List.take_append_drop i l, M.cells_app, List.getElem?_append_left (List.getElem?_eq_some_iff.1 hu).1]
  exact hu
theorem M.reads_drop {w : World} {l : List Mv} {b off cap : Nat} (i : Nat) (h : Reads w (.slice (some ⟨b, off, none⟩) l.length cap) l) (hi : i ≤ l.length) : Reads w (.slice (some ⟨b, M.offAt off cap i, none⟩) (l.length - i) (cap - i)) (l.drop i) := by
  obtain ⟨ao, cap', h1, h2, h3, h4, h5⟩ := h
  injection h1 with e1 e2 e3
  subst e3
  have hl : (l.drop i).length = l.length - i := by rw [List.length_drop]
  refine ⟨_, cap - i, by rw [hl], by omega, by omega, (fun e => by cases e), fun h0 => ?_⟩
  obtain ⟨b', off', k1, k2, k3⟩ := h5 (by omega)
  rw [← e1] at k1
  injection k1 with k1
  injection k1 with k1 k1'
  subst k1 k1'
  have hne : cap ≠ i := by omega
  refine ⟨b, _, rfl, k2, fun j u hu => ?_⟩
  unfold M.offAt
  rw [if_neg hne, Nat.add_assoc]
  refine k3 (i * 5 + j) u ?_
  have hlt : (M.cells (l.take i)).length = i * 5 := by rw [M.cells_len, List.length_take, Nat.min_eq_left hi]
  rw [← List.take_append_drop i l, M.cells_app, List.getElem?_append_right (by omega), hlt, show i * 5 + j - i * 5 = j by omega]
  exact hu
theorem M.reads_one {w : World} {g : Nat} {T : TypeId} (f t p d : Int) (ca : Bool) (h : RowAt w g T #[.int .i8 f, .int .i8 t, .int .u8 p, .int .u8 d, .bool ca]) : Reads w (.slice (some ⟨g, 0, none⟩) 1 1) [(f, t, p, d, ca)] := by
  refine ⟨_, 1, rfl, Nat.le_refl _, by decide, (fun e => by cases e), fun _ => ⟨g, 0, rfl, h.lt, fun j u hu => ?_⟩⟩
  rw [Nat.zero_add, h.cell]
  simpa [M.cells, M.cell] using hu

/-- Three lists, joined. -/
theorem joined_three (l0 l1 l2 L : List Mv) (v0 v1 v2 : Value) (w : World) (bp : Nat) (T : TypeId) (hb : RowAt w bp T #[v0, v1, v2]) (h0 : M.Reads w v0 l0) (h1 : M.Reads w v1 l1) (h2 : M.Reads w v2 l2) (hL : l0 ++ (l1 ++ l2) = L) (hN : L.length ≤ 100000) :
    Calls Try.prog 32 #[.slice (some ⟨bp, 0, none⟩) 3 3] w fun e w' => ∃ v, e = .returned v ∧ w'.ownsRow w.heap.size 33 5 v L.length (M.cells L) ∧ Below w.heap.size w w' := by
  have e : M.cat [(v0, l0), (v1, l1), (v2, l2)] 3 = L := by rw [← hL]; simp [M.cat]
  have three : ∀ (j : Nat) (x : Value × List Mv), [(v0, l0), (v1, l1), (v2, l2)][j]? = some x → (j = 0 ∧ x = (v0, l0)) ∨ (j = 1 ∧ x = (v1, l1)) ∨ (j = 2 ∧ x = (v2, l2)) := by
    intro j x hx
    match j, hx with
    | 0, hx => simp at hx; exact .inl ⟨rfl, hx.symm⟩
    | 1, hx => simp at hx; exact .inr (.inl ⟨rfl, hx.symm⟩)
    | 2, hx => simp at hx; exact .inr (.inr ⟨rfl, hx.symm⟩)
    | j + 3, hx => simp at hx
  have := joined_any bp 3 [(v0, l0), (v1, l1), (v2, l2)] w (Nat.le_refl _) (by simp) (fun j x hx => by
    rcases three j x hx with ⟨rfl, rfl⟩ | ⟨rfl, rfl⟩ | ⟨rfl, rfl⟩ <;> (rw [hb.cell]; rfl)) hb.lt (fun j x hx => by
    rcases three j x hx with ⟨rfl, rfl⟩ | ⟨rfl, rfl⟩ | ⟨rfl, rfl⟩ <;> assumption) (by show (M.cat [(v0, l0), (v1, l1), (v2, l2)] 3).length ≤ _; rw [e]; exact hN)
  rw [show ([(v0, l0), (v1, l1), (v2, l2)] : List (Value × List Mv)).length = 3 from rfl, e] at this
  exact this

set_option maxRecDepth 100000 in
set_option maxHeartbeats 2000000 in
theorem ofirst_any (c : Nat → Int) (l : List Mv) (v : Value) (f g p d : Int) (ca : Bool) (w : World) (hN : l.length ≤ 100000) (hr : M.Reads w v l) :
    Calls Try.prog 16 #[.agg (posC c), v, .agg #[.int .i8 f, .int .i8 g, .int .u8 p, .int .u8 d, .bool ca]] w fun e w' => ∃ v', e = .returned v' ∧ w'.ownsRow w.heap.size 33 5 v' l.length (M.cells (O.first l (f, g, p, d, ca))) ∧ Below w.heap.size w w' := by
  have hgw : Grows w (w.alloc (.cells #[.int .i8 f, .int .i8 g, .int .u8 p, .int .u8 d, .bool ca] 33)) := Grows.alloc _ _
  obtain ⟨ao, cap, hv, h1, h2, _⟩ := id hr
  subst hv
  have HI := Lib.hid (fun W (hb : Below w.heap.size w W) => index_any l (.slice ao l.length cap) f g p d ca W (hr.below hb) hN)
  have HR := Lib.hid (fun W (hb : Below w.heap.size w W) => hr.below hb)
  clear hr
  have hb0 : Below w.heap.size w ((w.alloc (.cells (posC c) 31)).alloc (.cells #[.int .i8 f, .int .i8 g, .int .u8 p, .int .u8 d, .bool ca] 33)) := ((Grows.alloc _ _).trans (Grows.alloc _ _)).below
  have hsz : ((w.alloc (.cells (posC c) 31)).alloc (.cells #[.int .i8 f, .int .i8 g, .int .u8 p, .int .u8 d, .bool ca] 33)).heap.size = w.heap.size + 2 := by show ((w.heap.push _).push _).size = _; simp
  have hrow : RowAt ((w.alloc (.cells (posC c) 31)).alloc (.cells #[.int .i8 f, .int .i8 g, .int .u8 p, .int .u8 d, .bool ca] 33)) (w.heap.size + 1) 33 #[.int .i8 f, .int .i8 g, .int .u8 p, .int .u8 d, .bool ca] := by
    have := RowAt.new (w.alloc (.cells (posC c) 31)) #[.int .i8 f, .int .i8 g, .int .u8 p, .int .u8 d, .bool ca] 33
    rwa [show (w.alloc (.cells (posC c) 31)).heap.size = w.heap.size + 1 by show (w.heap.push _).size = _; simp] at this
  have HIx := Lib.hid (HI.out _ hb0)
  have HS := Lib.hid (And.intro hb0 (And.intro hsz hrow))
  clear hb0 hsz hrow hgw
  go_enter Try.func16, Try.ntmps16
  go_wp2_with fail
  refine HIx.out.mono ?_
  rintro e w1 ⟨r, rfl, hF, hg⟩
  have hb1 := below_next HS.out.1 hg.below
  have hr1 := HS.out.2.2.below hg.below
  have hs1 := hb1.size
  rcases hF with ⟨i, rfl, hi, hn⟩ | ⟨rfl, hn⟩
  · have hil := (List.getElem?_eq_some_iff.1 hi).1
    have HF := Lib.hid (O.first_found l _ i hi hn)
    clear hi hn
    have hnn : ¬ ((i : Int) < 0) := by omega
    have hw1 : IntKind.i64.wrap ((i : Int) + 1) = ((i + 1 : Nat) : Int) := by rw [IntKind.wrap_i64]; omega
    obtain ⟨b, off, hao, hbs, _⟩ := (HR.out w1 hb1).choose_spec.choose_spec.2.2.2.2 (by omega)
    have haov : ao = some ⟨b, off, none⟩ := by
      have := (HR.out w1 hb1).choose_spec.choose_spec.1
      injection this with e _ _
      rw [e]; exact hao
    subst haov
    clear hao hbs
    go_wp2_with fail
    refine wp_region_held (S := fun W => Below w1.heap.size w1 W) (by kernel_rfl) ?_
    have hSd : Below w1.heap.size w1 w1.drew := ((Below.refl _ _).drew)
    refine takeD 0 (some 16) (.agg #[.int .i8 f, .int .i8 g, .int .u8 p, .int .u8 d, .bool ca]) (by kernel_rfl) (by kernel_rfl) (by kernel_rfl) (by kernel_rfl) (by kernel_rfl) (fun _ _ _ h => h) (yi_load_mv (by kernel_rfl) (.tmp 5) (by kernel_rfl) (w.heap.size + 1) 33 _ (by kernel_rfl) rfl (fun _ h => hr1.below h)) hSd ?_
    simp only [Act.put, List.setIfInBounds_toArray, List.set_cons_succ, List.set_cons_zero]
    refine takeD 2 (some 18) (.slice (some ⟨b, off, none⟩) l.length cap) (by kernel_rfl) (by kernel_rfl) (by kernel_rfl) (by kernel_rfl) (by kernel_rfl) (fun _ _ _ h => h) (yi_pure (v0 := .slice (some ⟨b, off, none⟩) l.length cap) (by kernel_rfl) (fun _ => by kernel_rfl) rfl) hSd ?_
    simp only [Act.put, List.setIfInBounds_toArray, List.set_cons_succ, List.set_cons_zero]
    refine takeD 3 (some 19) (.int .i64 (i : Int)) (by kernel_rfl) (by kernel_rfl) (by kernel_rfl) (by kernel_rfl) (by kernel_rfl) (fun _ _ _ h => h) (yi_pure (v0 := .int .i64 (i : Int)) (by kernel_rfl) (fun _ => by kernel_rfl) rfl) hSd ?_
    simp only [Act.put, List.setIfInBounds_toArray, List.set_cons_succ, List.set_cons_zero]
    refine takeD 5 (some 21) (.slice (some ⟨b, off, none⟩) l.length cap) (by kernel_rfl) (by kernel_rfl) (by kernel_rfl) (by kernel_rfl) (by kernel_rfl) (fun _ _ _ h => h) (yi_pure (v0 := .slice (some ⟨b, off, none⟩) l.length cap) (by kernel_rfl) (fun _ => by kernel_rfl) rfl) hSd ?_
    simp only [Act.put, List.setIfInBounds_toArray, List.set_cons_succ, List.set_cons_zero]
    refine takeD 6 (some 22) (.int .i64 (i : Int)) (by kernel_rfl) (by kernel_rfl) (by kernel_rfl) (by kernel_rfl) (by kernel_rfl) (fun _ _ _ h => h) (yi_pure (v0 := .int .i64 (i : Int)) (by kernel_rfl) (fun _ => by kernel_rfl) rfl) hSd ?_
    simp only [Act.put, List.setIfInBounds_toArray, List.set_cons_succ, List.set_cons_zero]
    refine takeD 7 (some 23) (.int .i64 ((i + 1 : Nat) : Int)) (by kernel_rfl) (by kernel_rfl) (by kernel_rfl) (by kernel_rfl) (by kernel_rfl) (fun _ _ _ h => h) (yi_pure (v0 := .int .i64 ((i + 1 : Nat) : Int)) (by kernel_rfl) (fun W => by rw [← hw1]; kernel_rfl) rfl) hSd ?_
    simp only [Act.put, List.setIfInBounds_toArray, List.set_cons_succ, List.set_cons_zero]
    refine takeD 4 (some 20) (.slice (some ⟨b, off, none⟩) i cap) (by kernel_rfl) (by kernel_rfl) (by kernel_rfl) (by kernel_rfl) (by kernel_rfl) (fun _ _ _ h => h) (yi_pure (v0 := .slice (some ⟨b, off, none⟩) i cap) (by kernel_rfl) (fun W => exec_slice (x := .tmp 18) (y := .tmp 19) (slice_to b off l.length cap i W hil h1)) rfl) hSd ?_
    simp only [Act.put, List.setIfInBounds_toArray, List.set_cons_succ, List.set_cons_zero]
    refine takeD 8 (some 24) (.slice (some ⟨b, M.offAt off cap (i + 1), none⟩) (l.length - (i + 1)) (cap - (i + 1))) (by kernel_rfl) (by kernel_rfl) (by kernel_rfl) (by kernel_rfl) (by kernel_rfl) (fun _ _ _ h => h) (yi_pure (v0 := .slice (some ⟨b, M.offAt off cap (i + 1), none⟩) (l.length - (i + 1)) (cap - (i + 1))) (by kernel_rfl) (fun W => exec_slice2 (x := .tmp 21) (y := .tmp 23) (slice_from b off l.length cap (i + 1) W hil)) rfl) hSd ?_
    simp only [Act.put, List.setIfInBounds_toArray, List.set_cons_succ, List.set_cons_zero]
    refine wpAnyH_all (rs := [1]) (by kernel_rfl) (by simp) (fun q hq => ?_)
    obtain rfl : q = 1 := by simpa using hq
    clear hq
    refine wpOp_atO rfl rfl ?_
    unfold Oper.wp
    go_simp
    have hS2 : Below w1.heap.size w1 ((w1.alloc (.cells #[.int .i8 f, .int .i8 g, .int .u8 p, .int .u8 d, .bool ca] 33)).drew) := ((Below.refl _ _).alloc (Nat.le_refl _) _).drew
    refine ⟨hS2, ?_⟩
    refine wpAnyH_all (rs := [9]) (by kernel_rfl) (by simp) (fun q hq => ?_)
    obtain rfl : q = 9 := by simpa using hq
    clear hq
    refine wpOp_atO rfl rfl ?_
    unfold Oper.wp
    go_simp
    obtain ⟨W3, hW3⟩ : ∃ W3, ((w1.alloc (.cells #[.int .i8 f, .int .i8 g, .int .u8 p, .int .u8 d, .bool ca] 33)).alloc (.cells #[.slice (some ⟨w1.heap.size, 0, none⟩) 1 1, .slice (some ⟨b, off, none⟩) i cap, .slice (some ⟨b, M.offAt off cap (i + 1), none⟩) (l.length - (i + 1)) (cap - (i + 1))] 40)).drew = W3 := ⟨_, rfl⟩
    have hz2 : (w1.alloc (.cells #[.int .i8 f, .int .i8 g, .int .u8 p, .int .u8 d, .bool ca] 33)).heap.size = w1.heap.size + 1 := by show (w1.heap.push _).size = _; simp
    have hS3 : Below w1.heap.size w1 W3 := by rw [← hW3]; exact (((Below.refl _ _).alloc (Nat.le_refl _) _).alloc (by rw [hz2]; omega) _).drew
    have hR0 : RowAt W3 w1.heap.size 33 #[.int .i8 f, .int .i8 g, .int .u8 p, .int .u8 d, .bool ca] := by rw [← hW3]; exact ⟨((RowAt.new w1 #[.int .i8 f, .int .i8 g, .int .u8 p, .int .u8 d, .bool ca] 33).alloc _).heap⟩
    have hR1 : RowAt W3 (w1.heap.size + 1) 40 #[.slice (some ⟨w1.heap.size, 0, none⟩) 1 1, .slice (some ⟨b, off, none⟩) i cap, .slice (some ⟨b, M.offAt off cap (i + 1), none⟩) (l.length - (i + 1)) (cap - (i + 1))] := by rw [← hW3, ← hz2]; exact ⟨(RowAt.new (w1.alloc (.cells #[.int .i8 f, .int .i8 g, .int .u8 p, .int .u8 d, .bool ca] 33)) #[.slice (some ⟨w1.heap.size, 0, none⟩) 1 1, .slice (some ⟨b, off, none⟩) i cap, .slice (some ⟨b, M.offAt off cap (i + 1), none⟩) (l.length - (i + 1)) (cap - (i + 1))] 40).heap⟩
    have hz3 : W3.heap.size = w1.heap.size + 2 := by rw [← hW3]; show ((w1.heap.push _).push _).size = _; simp
    have hLL : [(f, g, p, d, ca)] ++ (l.take i ++ l.drop (i + 1)) = O.first l (f, g, p, d, ca) := by rw [HF.out]; rfl
    have hRR := (HR.out w1 hb1).below hS3
    have HJ := Lib.hid (joined_three _ _ _ _ _ _ _ W3 (w1.heap.size + 1) _ hR1 (M.reads_one f g p d ca hR0) (M.reads_take i hRR hil) (M.reads_drop (i + 1) hRR hil) hLL (by rw [O.first_len]; exact hN))
    rw [O.first_len, hz3] at HJ
    rw [hW3]
    clear hLL hRR hR0 hR1 hW3 hz2 hz3
    refine ⟨hS3, ?_⟩
    refine wpAnyH_all (rs := [10]) (by kernel_rfl) (by simp) (fun q hq => ?_)
    obtain rfl : q = 10 := by simpa using hq
    clear hq
    refine wpOp_atO rfl rfl ?_
    unfold Oper.wp
    go_simp
    refine HJ.out.mono ?_
    rintro e W4 ⟨v4, rfl, hown, hb4⟩
    have hS4 : Below w1.heap.size w1 W4 := hS3.trans (hb4.mono (by omega))
    refine ⟨hS4, ?_⟩
    refine takeD 11 (some 6) v4 (by kernel_rfl) (by kernel_rfl) (by kernel_rfl) (by kernel_rfl) (by kernel_rfl) (fun _ _ _ h => h) (yi_pure (v0 := v4) (by kernel_rfl) (fun _ => by kernel_rfl) rfl) hS4 ?_
    simp only [Act.put, List.setIfInBounds_toArray, List.set_cons_succ, List.set_cons_zero]
    refine wpAnyH_done (by kernel_rfl) ?_ _
    go_wp2
    go_ret
    exact ⟨v4, rfl, owns_baseO hown (by omega), below_next hb1 hS4⟩
  · have HF := Lib.hid (O.first_none l _ hn)
    clear hn
    have HRR := HR.out w1 hb1
    have HJ := Lib.hid (joined_one l (.slice ao l.length cap) (w1.alloc (.cells #[.slice ao l.length cap] 40)) w1.heap.size 40 (RowAt.new _ _ _) (HRR.below ((Below.refl _ _).alloc (Nat.le_refl _) _)) hN)
    clear HRR
    go_wp2_with fail
    refine HJ.out.mono ?_
    rintro e w2 ⟨v2, rfl, hown, hb⟩
    have hb2 := below_next (hb1.alloc hs1 (.cells #[.slice ao l.length cap] 40)) hb
    rw [show (w1.alloc (.cells #[.slice ao l.length cap] 40)).heap.size = w1.heap.size + 1 by show (w1.heap.push _).size = _; simp] at hown
    go_wp2
    go_ret
    exact ⟨v2, rfl, by rw [HF.out]; exact owns_baseO hown (by omega), hb2⟩

end Go.Proofs.Ytdcmjbebkmicaaa
