/- The document's order: Ahead, Same, First. -/
import Derived.Test.YtdcmjbebkmicaaaRef27a
import Derived.Test.YtdcmjbebkmicaaaLaw27c
import Derived.Test.YtdcmjbebkmicaaaOrdU
import Derived.Test.YtdcmjbebkmicaaaOrdP
namespace Go.Proofs.Ytdcmjbebkmicaaa
open Go.RowKit Go.Sort Go.Lib

namespace O
/-- Does a move come ahead of another one? -/
def ahead (c : Nat → Int) (a b : Mv) : Bool := decide (key c a < key c b)
theorem ahead_of {c : Nat → Int} (hc : PosOk c) (a b : Mv) (ha : MvOk a) (hb : MvOk b) :
    ahead c a b = if taken c a ≠ taken c b then decide (taken c b < taken c a) else if a.2.2.1 ≠ b.2.2.1 then decide (b.2.2.1 < a.2.2.1) else if 0 < taken c a then decide (moving c a < moving c b) else false := by
  have h1 := taken_bd hc a
  have h2 := taken_bd hc b
  have h3 := moving_bd hc a ha
  have h4 := moving_bd hc b hb
  have h5 := ha.2.2.1
  have h6 := hb.2.2.1
  unfold ahead key
  generalize taken c a = ta at *
  generalize taken c b = tb at *
  generalize moving c a = ma at *
  generalize moving c b = mb at *
  generalize a.2.2.1 = pa at *
  generalize b.2.2.1 = pb at *
  clear ha hb hc
  rw [Bool.eq_iff_iff]
  (repeat' split) <;> simp only [decide_eq_true_eq, Bool.false_eq_true, iff_false] <;> omega
end O
set_option maxRecDepth 100000 in
set_option maxHeartbeats 4000000 in
theorem d27ahead_eq (c : Nat → Int) (m n : Mv) (bb : Bool) (w : World) (hc : PosOk c) (hm : O.MvOk m) (hn : O.MvOk n) (hb : O.ahead c m n = bb) :
    Calls Try.prog 43 #[.agg (posC c), .agg #[.int .i8 m.1, .int .i8 m.2.1, .int .u8 m.2.2.1, .int .u8 m.2.2.2.1, .bool m.2.2.2.2], .agg #[.int .i8 n.1, .int .i8 n.2.1, .int .u8 n.2.2.1, .int .u8 n.2.2.2.1, .bool n.2.2.2.2]] w fun e w' => e = .returned (.bool bb) ∧ Below w.heap.size w w' := by
  rw [O.ahead_of hc m n hm hn] at hb
  obtain ⟨f, t, p, d, ca⟩ := m
  obtain ⟨f', t', p', d', ca'⟩ := n
  dsimp only at hb ⊢
  obtain ⟨x, hx⟩ : ∃ x, O.taken c (f, t, p, d, ca) = x := ⟨_, rfl⟩
  obtain ⟨y, hy⟩ : ∃ y, O.taken c (f', t', p', d', ca') = y := ⟨_, rfl⟩
  obtain ⟨u, hu⟩ : ∃ u, O.moving c (f, t, p, d, ca) = u := ⟨_, rfl⟩
  obtain ⟨v, hv⟩ : ∃ v, O.moving c (f', t', p', d', ca') = v := ⟨_, rfl⟩
  rw [hx, hy, hu, hv] at hb
  have KT1 := Lib.hid (fun W => d27taken_eq c f t p d ca x W hc hm hx)
  have KT2 := Lib.hid (fun W => d27taken_eq c f' t' p' d' ca' y W hc hn hy)
  have KM1 := Lib.hid (fun W => d27moving_eq c f t p d ca u W hc hm hu)
  have KM2 := Lib.hid (fun W => d27moving_eq c f' t' p' d' ca' v W hc hn hv)
  clear hx hy hu hv hm hn hc
  obtain ⟨W0, hW0⟩ : ∃ W0, (((w.alloc (.cells (posC c) 31)).alloc (.cells #[.int .i8 f, .int .i8 t, .int .u8 p, .int .u8 d, .bool ca] 33)).alloc (.cells #[.int .i8 f', .int .i8 t', .int .u8 p', .int .u8 d', .bool ca'] 33)) = W0 := ⟨_, rfl⟩
  have hS0 : PosAt W0 w.heap.size c ∧ RowAt W0 (w.heap.size + 1) 33 #[.int .i8 f, .int .i8 t, .int .u8 p, .int .u8 d, .bool ca] ∧ RowAt W0 (w.heap.size + 2) 33 #[.int .i8 f', .int .i8 t', .int .u8 p', .int .u8 d', .bool ca'] ∧ Below w.heap.size w W0 := by
    rw [← hW0]
    have z1 : (w.alloc (.cells (posC c) 31)).heap.size = w.heap.size + 1 := by show (w.heap.push _).size = _; simp
    have z2 : ((w.alloc (.cells (posC c) 31)).alloc (.cells #[.int .i8 f, .int .i8 t, .int .u8 p, .int .u8 d, .bool ca] 33)).heap.size = w.heap.size + 2 := by show ((w.heap.push _).push _).size = _; simp
    refine ⟨((PosAt.new w c).alloc _).alloc _, ?_, ?_, (((Grows.alloc _ _).trans (Grows.alloc _ _)).trans (Grows.alloc _ _)).below⟩
    · have := (RowAt.new (w.alloc (.cells (posC c) 31)) #[.int .i8 f, .int .i8 t, .int .u8 p, .int .u8 d, .bool ca] 33).alloc (.cells #[.int .i8 f', .int .i8 t', .int .u8 p', .int .u8 d', .bool ca'] 33)
      rwa [z1] at this
    · have := RowAt.new ((w.alloc (.cells (posC c) 31)).alloc (.cells #[.int .i8 f, .int .i8 t, .int .u8 p, .int .u8 d, .bool ca] 33)) #[.int .i8 f', .int .i8 t', .int .u8 p', .int .u8 d', .bool ca'] 33
      rwa [z2] at this
  obtain ⟨hp, hm, hn, hb0⟩ := hS0
  have HS := Lib.hid (fun W (h : Below W0.heap.size W0 W) => (show _ ∧ _ ∧ _ ∧ _ ∧ _ from ⟨hp.below h, hm.below h, hn.below h, hb0.trans (h.mono hb0.size), Nat.lt_of_lt_of_le hn.lt h.size⟩))
  clear hb0
  have hsz := hn.lt
  go_enter Try.func43, Try.ntmps43
  go_wp2_with fail
  clear hW0
  refine region_below (by kernel_rfl) (by kernel_rfl) ?_
  repeat (first
    | (go_big_quiet_want; refine quiet_load_posB _ rfl ⟨_, _, rfl, hp, ?_⟩; simp only [Act.put, List.setIfInBounds_toArray, List.set_cons_succ, List.set_cons_zero]; go_big_quiet_on)
    | (go_big_quiet_want; refine quiet_load_mvB _ rfl ⟨_, _, _, rfl, hm, (by rfl), ?_⟩; simp only [Act.put, List.setIfInBounds_toArray, List.set_cons_succ, List.set_cons_zero]; go_big_quiet_on)
    | (go_big_quiet_want; refine quiet_load_mvB _ rfl ⟨_, _, _, rfl, hn, (by rfl), ?_⟩; simp only [Act.put, List.setIfInBounds_toArray, List.set_cons_succ, List.set_cons_zero]; go_big_quiet_on)
    | go_big_quiet_step (first
      | (go_at_call 61; with_reducible exact quiet_below (KT1.out _))
      | (go_at_call 61; with_reducible exact quiet_below (KT2.out _))))
  refine wpQuiet_nil ?_
  intro w1 hb1
  clear hp hm hn hsz
  obtain ⟨hp, hm, hn, hb0, hsz⟩ := HS.out w1 hb1
  obtain ⟨m0, m1, m2, m3, m4⟩ := hm.mvO
  obtain ⟨n0, n1, n2, n3, n4⟩ := hn.mvO
  by_cases hxy : x = y
  · subst hxy
    rw [if_neg (fun h => h rfl)] at hb
    by_cases hpp : p = p'
    · subst hpp
      rw [if_neg (fun h => h rfl)] at hb
      by_cases hx0 : 0 < x
      · rw [if_pos hx0] at hb
        have e1 : decide (0 < x) = true := by simpa using hx0
        clear hx0
        go_wp2_with fail
        refine region_below (by kernel_rfl) (by kernel_rfl) ?_
        repeat (first
          | (go_big_quiet_want; refine quiet_load_posB _ rfl ⟨_, _, rfl, hp, ?_⟩; simp only [Act.put, List.setIfInBounds_toArray, List.set_cons_succ, List.set_cons_zero]; go_big_quiet_on)
          | (go_big_quiet_want; refine quiet_load_mvB _ rfl ⟨_, _, _, rfl, hm, (by rfl), ?_⟩; simp only [Act.put, List.setIfInBounds_toArray, List.set_cons_succ, List.set_cons_zero]; go_big_quiet_on)
          | (go_big_quiet_want; refine quiet_load_mvB _ rfl ⟨_, _, _, rfl, hn, (by rfl), ?_⟩; simp only [Act.put, List.setIfInBounds_toArray, List.set_cons_succ, List.set_cons_zero]; go_big_quiet_on)
          | go_big_quiet_step (first
            | (go_at_call 62; with_reducible exact quiet_below (KM1.out _))
            | (go_at_call 62; with_reducible exact quiet_below (KM2.out _))))
        refine wpQuiet_nil ?_
        intro w2 hb2
        go_wp2_with fail
        go_ret
        exact ⟨rfl, below_next hb0 hb2⟩
      · rw [if_neg hx0] at hb
        subst hb
        have e1 : decide (0 < x) = false := by simpa using hx0
        clear hx0
        go_wp2_with fail
        refine region_below (by kernel_rfl) (by kernel_rfl) ?_
        repeat (first
          | go_big_quiet_step (fail))
        refine wpQuiet_nil ?_
        intro w2 hb2
        go_wp2_with fail
        go_ret
        exact ⟨rfl, below_next hb0 hb2⟩
    · rw [if_pos hpp] at hb
      have e1 : (p != p') = true := by simpa using hpp
      clear hpp
      go_wp2_with fail
      go_ret
      exact ⟨rfl, hb0⟩
  · rw [if_pos hxy] at hb
    have e1 : (x != y) = true := by simpa using hxy
    clear hxy
    go_wp2_with fail
    go_ret
    exact ⟨rfl, hb0⟩

set_option maxRecDepth 100000 in
set_option maxHeartbeats 2000000 in
/-- The same list twice. -/
theorem d27same_true (l : List Mv) (va vb : Value) (w : World) (ha : M.Reads w va l) (hb : M.Reads w vb l) :
    Calls Try.prog 17 #[va, vb] w fun e w' => e = .returned (.bool true) ∧ Below w.heap.size w w' := by
  obtain ⟨ao, cap, hv, h1, h2, -⟩ := id ha
  obtain ⟨bo, cap2, hv2, k1, k2, -⟩ := id hb
  subst hv hv2
  have HA := Lib.hid (fun W (h : Below w.heap.size w W) i x (hx : l[i]? = some x) => ha.at h rfl i x hx)
  have HB := Lib.hid (fun W (h : Below w.heap.size w W) i x (hx : l[i]? = some x) => hb.at h rfl i x hx)
  obtain ⟨q, hq⟩ : ∃ q, l.length = q := ⟨_, rfl⟩
  have Hq := Lib.hid hq
  rw [hq] at h1 k1 ⊢
  unfold maxLen at h2 k2
  clear ha hb hq
  go_enter Try.func17, Try.ntmps17
  go_wp2_with fail
  go_loopw [5] (fun vi wr => ∃ n : Nat, n ≤ q ∧ vi = .int .i64 (n : Int) ∧ Below w.heap.size w wr) (fun vi _ => q - (intOf vi).toNat)
  case atStart => exact ⟨0, by omega, rfl, Below.refl _ _⟩
  case round =>
    obtain ⟨n, hn, rfl, hbr⟩ := hrel
    by_cases hlt : n < q
    · obtain ⟨x, hx⟩ : ∃ m, l[n]? = some m := ⟨_, List.getElem?_eq_getElem (by rw [Hq.out]; exact hlt)⟩
      obtain ⟨b1, off1, e1, hbs1, ha1⟩ := HA.out wr hbr n _ hx
      obtain ⟨b2, off2, e2, hbs2, ha2⟩ := HB.out wr hbr n _ hx
      cases e1
      cases e2
      clear hx
      have hxx : (x != x) = false := by simp
      go_wp2_with fail
      refine region_grows (by kernel_rfl) (by kernel_rfl) ?_
      repeat (first
        | (go_big_quiet_want; refine quiet_load_at _ rfl ⟨_, _, _, rfl, ha1, ?_⟩; simp only [Act.put, List.setIfInBounds_toArray, List.set_cons_succ, List.set_cons_zero]; go_big_quiet_on)
        | (go_big_quiet_want; refine quiet_load_at _ rfl ⟨_, _, _, rfl, ha2, ?_⟩; simp only [Act.put, List.setIfInBounds_toArray, List.set_cons_succ, List.set_cons_zero]; go_big_quiet_on)
        | (go_big_quiet_want; refine quiet_neq_mv _ _ _ rfl ⟨x, x, rfl, rfl, ?_⟩; simp only [hxx, Act.put, List.setIfInBounds_toArray, List.set_cons_succ, List.set_cons_zero]; go_big_quiet_on)
        | go_big_quiet_step (fail))
      refine wpQuiet_nil ?_
      intro w4 hg4
      go_wp2_with fail
      exact ⟨⟨n + 1, by omega, by go_num, hbr.trans (hg4.below.mono hbr.size)⟩, by simp [intOf]; omega⟩
    · obtain rfl : q = n := by omega
      go_wp2_with fail
      go_ret
      exact ⟨rfl, hbr⟩

namespace O
/-- The list without the one that is put to the front. -/
def fi (l : List Mv) (m : Mv) (j : Option Nat) (n : Nat) : List Mv := (match j with | some j => m :: (l.take n).eraseIdx j | none => l.take n)
theorem fi_zero (l : List Mv) (m : Mv) (j : Option Nat) : fi l m j 0 = if j.isSome then [m] else [] := by cases j <;> simp [fi]
theorem fi_skip (l : List Mv) (m : Mv) (n : Nat) (hn : n < l.length) : fi l m (some n) (n + 1) = fi l m (some n) n := by
  have e1 : (l.take n).eraseIdx n = l.take n := List.eraseIdx_of_length_le (by rw [List.length_take]; omega)
  unfold fi
  simp only [List.cons.injEq, true_and]
  rw [e1, List.take_add_one, List.getElem?_eq_getElem hn, Option.toList_some, List.eraseIdx_append_of_length_le (by rw [List.length_take]; omega), List.length_take, Nat.min_eq_left (by omega), Nat.sub_self]
  simp
theorem fi_next (l : List Mv) (m x : Mv) (j : Option Nat) (n : Nat) (hx : l[n]? = some x) (hj : j ≠ some n) : fi l m j (n + 1) = fi l m j n ++ [x] := by
  have hn := (List.getElem?_eq_some_iff.1 hx).1
  unfold fi
  rw [List.take_add_one, hx, Option.toList_some]
  cases j with
  | none => rfl
  | some j =>
    simp only [List.cons_append, List.cons.injEq, true_and]
    have hjn : j ≠ n := fun e => hj (by rw [e])
    by_cases h : j < n
    · rw [List.eraseIdx_append_of_lt_length (by rw [List.length_take]; omega)]
    · rw [List.eraseIdx_of_length_le (by simp; omega), List.eraseIdx_of_length_le (by simp; omega)]
theorem fi_len (l : List Mv) (m : Mv) (j : Option Nat) (n : Nat) : (fi l m j n).length ≤ n + 1 := by
  unfold fi
  cases j with
  | none => simp; omega
  | some j =>
    have := List.length_eraseIdx_le (l.take n) j
    simp only [List.length_cons]
    rw [List.length_take] at this
    omega
/-- What the loop from the end has found. -/
def Fnd (l : List Mv) (m : Mv) (n : Nat) (j : Option Nat) : Prop := match j with
  | some j => n ≤ j ∧ l[j]? = some m ∧ ∀ i, n ≤ i → i < j → l[i]? ≠ some m
  | none => ∀ i, n ≤ i → i < l.length → l[i]? ≠ some m
theorem fi_all (l : List Mv) (m : Mv) (j : Option Nat) (h : Fnd l m 0 j) : fi l m j l.length = first l m := by
  unfold fi
  unfold Fnd at h
  rw [List.take_length]
  cases j with
  | none => exact (first_none l m (fun i hi => h i (Nat.zero_le _) hi)).symm
  | some j =>
    rw [first_found l m j h.2.1 (fun i hi => h.2.2 i (Nat.zero_le _) hi)]
    simp only [List.cons.injEq, true_and]
    exact List.eraseIdx_eq_take_drop_succ l j
theorem fnd_lt (l : List Mv) (m : Mv) (j : Nat) (h : Fnd l m 0 (some j)) : j < l.length := (List.getElem?_eq_some_iff.1 h.2.1).1
def atV (j : Option Nat) : Int := match j with | some j => (j : Int) | none => -1
end O

set_option maxRecDepth 100000 in
set_option maxHeartbeats 4000000 in
theorem d27first_any (l : List Mv) (v : Value) (f' g' p' d' : Int) (c' : Bool) (w : World) (hN : l.length ≤ 100000) (hr : M.Reads w v l) :
    Calls Try.prog 19 #[v, .agg #[.int .i8 f', .int .i8 g', .int .u8 p', .int .u8 d', .bool c']] w fun e w' => ∃ v', e = .returned v' ∧ w'.ownsRow (w.heap.size + 1) 33 5 v' l.length (M.cells (O.first l (f', g', p', d', c'))) ∧ Below w.heap.size w w' := by
  obtain ⟨A, hA⟩ : ∃ A : Array Value, #[.int .i8 f', .int .i8 g', .int .u8 p', .int .u8 d', .bool c'] = A := ⟨_, rfl⟩
  obtain ⟨W0, hW0⟩ : ∃ W0, (w.alloc (.cells A 33)) = W0 := ⟨_, rfl⟩
  have hS0 : RowAt W0 w.heap.size 33 A ∧ Below w.heap.size w W0 ∧ W0.heap.size = w.heap.size + 1 := by
    rw [← hW0]
    exact ⟨RowAt.new _ _ _, (Grows.alloc _ _).below, by show (w.heap.push _).size = _; simp⟩
  obtain ⟨hm, hb0, hsz⟩ := hS0
  obtain ⟨ao, cap, hv, h1, h2, -⟩ := id hr
  subst hv
  rw [hA]
  have HAA := Lib.hid hA
  have hr0 := hr.below hb0
  have HA := Lib.hid (fun W (h : Below W0.heap.size W0 W) i x (hx : l[i]? = some x) => hr0.at h rfl i x hx)
  have HM := Lib.hid (fun W (h : Below W0.heap.size W0 W) => (show RowAt W w.heap.size 33 #[.int .i8 f', .int .i8 g', .int .u8 p', .int .u8 d', .bool c'] from by rw [hA]; exact hm.below h))
  have HB := Lib.hid (And.intro hb0 hsz)
  obtain ⟨q, hq⟩ : ∃ q, l.length = q := ⟨_, rfl⟩
  have Hq := Lib.hid hq
  rw [hq] at h1 hN ⊢
  unfold maxLen at h2
  have hw1 : IntKind.i64.wrap ((q : Int) - 1) = (q : Int) - 1 := by rw [IntKind.wrap_i64]; omega
  clear hr hr0 hA hb0 hsz hm hq
  go_enter Try.func19, Try.ntmps19
  go_wp2_with fail
  clear hW0
  go_loopw [5, 6] (fun va vi wr => ∃ (n : Nat) (j : Option Nat), n ≤ q ∧ vi = .int .i64 ((n : Int) - 1) ∧ va = .int .i64 (O.atV j) ∧ Hid (O.Fnd l (f', g', p', d', c') n j) ∧ Below W0.heap.size W0 wr) (fun _ vi _ => (intOf vi + 1).toNat)
  case atStart => exact ⟨q, none, by omega, rfl, rfl, Lib.hid (fun i h1 h2 => by rw [Hq.out] at h2; omega), Below.refl _ _⟩
  case round =>
    obtain ⟨n, j, hn, rfl, rfl, HF, hbr⟩ := hrel
    by_cases hn0 : 0 < n
    · obtain ⟨k, rfl⟩ : ∃ k, n = k + 1 := ⟨n - 1, by omega⟩
      have hkk : ((k + 1 : Nat) : Int) - 1 = (k : Int) := by omega
      rw [hkk]
      obtain ⟨x, hx⟩ : ∃ m, l[k]? = some m := ⟨_, List.getElem?_eq_getElem (by rw [Hq.out]; omega)⟩
      obtain ⟨b1, off1, e1, hbs1, ha1⟩ := HA.out wr hbr k _ hx
      cases e1
      have hm := HM.out wr hbr
      have HX := Lib.hid hx
      have hw2 : IntKind.i64.wrap ((k : Int) - 1) = (k : Int) - 1 := by rw [IntKind.wrap_i64]; omega
      have hk1 : (k : Int) < (q : Int) := by omega
      have hk2 : (0 : Int) ≤ (k : Int) := by omega
      obtain ⟨z, hz⟩ : ∃ z, O.atV j = z := ⟨_, rfl⟩
      rw [hz]
      have HZ := Lib.hid hz
      clear hx hz hkk hn0
      by_cases hxm : x = (f', g', p', d', c')
      · subst hxm
        have hxx : ((f', g', p', d', c') == (f', g', p', d', c')) = true := by simp
        go_wp2_with fail
        refine region_grows (by kernel_rfl) (by kernel_rfl) ?_
        repeat (first
          | (go_big_quiet_want; refine quiet_load_at _ rfl ⟨_, _, _, rfl, ha1, ?_⟩; simp only [Act.put, List.setIfInBounds_toArray, List.set_cons_succ, List.set_cons_zero]; go_big_quiet_on)
          | (go_big_quiet_want; refine quiet_load_mvbox _ rfl ⟨_, _, (f', g', p', d', c'), rfl, hm, ?_⟩; simp only [Act.put, List.setIfInBounds_toArray, List.set_cons_succ, List.set_cons_zero]; go_big_quiet_on)
          | (go_big_quiet_want; refine quiet_eql_mv _ _ _ rfl ⟨(f', g', p', d', c'), (f', g', p', d', c'), rfl, rfl, ?_⟩; simp only [hxx, Act.put, List.setIfInBounds_toArray, List.set_cons_succ, List.set_cons_zero]; go_big_quiet_on)
          | go_big_quiet_step (fail))
        refine wpQuiet_nil ?_
        intro w4 hg4
        go_wp2_with fail
        exact ⟨⟨k, some k, by omega, rfl, rfl, Lib.hid ⟨Nat.le_refl _, HX.out, fun i h1 h2 => by omega⟩, hbr.trans (hg4.below.mono hbr.size)⟩, by simp [intOf]⟩
      · have hxx : (x == (f', g', p', d', c')) = false := by simpa using hxm
        have Hne := Lib.hid hxm
        clear hxm
        go_wp2_with fail
        refine region_grows (by kernel_rfl) (by kernel_rfl) ?_
        repeat (first
          | (go_big_quiet_want; refine quiet_load_at _ rfl ⟨_, _, _, rfl, ha1, ?_⟩; simp only [Act.put, List.setIfInBounds_toArray, List.set_cons_succ, List.set_cons_zero]; go_big_quiet_on)
          | (go_big_quiet_want; refine quiet_load_mvbox _ rfl ⟨_, _, (f', g', p', d', c'), rfl, hm, ?_⟩; simp only [Act.put, List.setIfInBounds_toArray, List.set_cons_succ, List.set_cons_zero]; go_big_quiet_on)
          | (go_big_quiet_want; refine quiet_eql_mv _ _ _ rfl ⟨x, (f', g', p', d', c'), rfl, rfl, ?_⟩; simp only [hxx, Act.put, List.setIfInBounds_toArray, List.set_cons_succ, List.set_cons_zero]; go_big_quiet_on)
          | go_big_quiet_step (fail))
        refine wpQuiet_nil ?_
        intro w4 hg4
        go_wp2_with fail
        refine ⟨⟨k, j, by omega, rfl, by rw [HZ.out], Lib.hid ?_, hbr.trans (hg4.below.mono hbr.size)⟩, by simp [intOf]⟩
        have hk : ∀ i, i = k → l[i]? ≠ some (f', g', p', d', c') := fun i e => by rw [e, HX.out]; intro e2; exact Hne.out (Option.some.inj e2)
        have hF := HF.out
        unfold O.Fnd at hF ⊢
        cases j with
        | some j => exact ⟨by omega, hF.2.1, fun i h1 h2 => if e : i = k then hk i e else hF.2.2 i (by omega) h2⟩
        | none => exact fun i h1 h2 => if e : i = k then hk i e else hF i (by omega) h2
    · obtain rfl : n = 0 := by omega
      rw [show (((0 : Nat) : Int) - 1) = -1 from rfl]
      have hall := O.fi_all l _ j HF.out
      have hjq : ∀ j', j = some j' → j' < q := fun j' e => by
        subst e
        rw [← Hq.out]; exact O.fnd_lt _ _ _ HF.out
      have HALL := Lib.hid hall
      have HJ := Lib.hid hjq
      clear hall hjq HF hn
      have hbr2 := hbr.size
      have hsz := HB.out.2
      obtain ⟨i0, hi, hz0, hz1, hz2⟩ := info_parts Try.info_MoveO
      have hm := HM.out wr hbr
      cases j with
      | some j =>
        have hjq := HJ.out j rfl
        clear HJ
        have hown : wr.ownsRow (w.heap.size + 1) 33 5 (.slice none 0 0) 0 [] := World.ownsRow_nil _ _ _ _
        unfold O.atV
        have hj0 : (0 : Int) ≤ (j : Int) := by omega
        go_wp2_with (first
          | ((with_reducible refine wp_load_row' rfl 33 _ rfl Try.underlying33 rfl ?_); refine ⟨_, _, _, rfl, hm, ?_, ?_⟩; exact Try.info_mv _ rfl)
          | (at_builtin; refine wpList_append_own _ rfl _ _ 40 rfl (w.heap.size + 1) 33 i0 (.agg #[.int .i8 0, .int .i8 0, .int .u8 0, .int .u8 0, .bool false]) 5 5 Try.underlying40 hi hz0 hz1 hz2 rfl (by decide) _ _ _ rfl (hown.alloc _) ⟨_, 0, none⟩ 1 1 (M.cell (f', g', p', d', c')) rfl rfl (row_addO (RowAt.new wr (M.cell (f', g', p', d', c')).toArray 33)) (M.cell_oneO _) (by unfold maxLen; omega) (by omega) (by simp; omega) ?_; intro v' w5 hown' hgrow _)
          | fail)
        have hb5 : Below W0.heap.size W0 w5 := (hbr.alloc hbr.size _).grown hgrow (by simp; omega) (fun q hq => by have := (hown.lt q hq).1; omega)
        clear hown hm hgrow hj0 hbr hbr2
        go_loopw [7, 8] (fun vs vi wr => ∃ n : Nat, n ≤ q ∧ vi = .int .i64 (n : Int) ∧ wr.ownsRow (w.heap.size + 1) 33 5 vs (O.fi l (f', g', p', d', c') (some j) n).length (M.cells (O.fi l (f', g', p', d', c') (some j) n)) ∧ Below W0.heap.size W0 wr) (fun _ vi _ => q - (intOf vi).toNat)
        case atStart => exact ⟨0, by omega, rfl, hown', hb5⟩
        case round =>
          clear hown' hb5
          obtain ⟨n, hn, rfl, hown, hbr⟩ := hrel
          have hfl := O.fi_len l (f', g', p', d', c') (some j) n
          have hbs0 := hbr.size
          by_cases hlt : n < q
          · obtain ⟨x, hx⟩ : ∃ m, l[n]? = some m := ⟨_, List.getElem?_eq_getElem (by rw [Hq.out]; exact hlt)⟩
            obtain ⟨b, off, e, hbs, ha⟩ := HA.out wr hbr n _ hx
            cases e
            by_cases hnj : n = j
            · subst hnj
              have hsk := O.fi_skip l (f', g', p', d', c') n (by rw [Hq.out]; exact hlt)
              have HSK := Lib.hid hsk
              clear hsk
              go_wp2_with fail
              exact ⟨⟨n + 1, by omega, by go_num, by rw [HSK.out]; exact hown, hbr⟩, by simp [intOf]; omega⟩
            · have hne : ((n : Int) != (j : Int)) = true := by simp; omega
              have hst := O.fi_next l (f', g', p', d', c') x (some j) n hx (fun e => hnj (Option.some.inj e).symm)
              obtain ⟨f, t, p, d, ca⟩ := x
              have Hst := Lib.hid hst
              clear hst hx
              obtain ⟨a0, a1, a2, a3, a4⟩ := ha.five
              go_wp2_with (first
                | (at_builtin; refine wpList_append_own _ rfl _ _ 40 rfl (w.heap.size + 1) 33 i0 (.agg #[.int .i8 0, .int .i8 0, .int .u8 0, .int .u8 0, .bool false]) 5 5 Try.underlying40 hi hz0 hz1 hz2 rfl (by decide) _ _ _ rfl (hown.alloc _) ⟨_, 0, none⟩ 1 1 (M.cell (f, t, p, d, ca)) rfl rfl (row_addO (RowAt.new wr (M.cell (f, t, p, d, ca)).toArray 33)) (M.cell_oneO _) (by unfold maxLen; omega) (by omega) (by simp; omega) ?_; intro v' w5 hown' hgrow _)
                | fail)
              refine ⟨⟨n + 1, by omega, by go_num, ?_, ?_⟩, by simp [intOf]; omega⟩
              · rw [Hst.out, M.cells_snoc, List.length_append]; exact hown'
              · exact (hbr.alloc hbr.size _).grown hgrow (by simp; omega) (fun q hq => by have := (hown.lt q hq).1; omega)
          · obtain rfl : q = n := by omega
            have hall := HALL.out
            rw [Hq.out] at hall
            rw [hall] at hown
            have hfl2 : (O.first l (f', g', p', d', c')).length = q := by rw [O.first_len, Hq.out]
            rw [hfl2] at hown
            have HO := Lib.hid hown
            clear hown hall hfl2 hfl
            go_wp2_with fail
            go_ret
            exact ⟨_, rfl, HO.out, HB.out.1.trans (hbr.mono HB.out.1.size)⟩
      | none =>
        clear HJ
        unfold O.atV
        go_wp2_with fail
        have hb5 := hbr
        have hown' : wr.ownsRow (w.heap.size + 1) 33 5 (.slice none 0 0) 0 [] := World.ownsRow_nil _ _ _ _
        clear hm hbr hbr2
        go_loopw [7, 8] (fun vs vi wr => ∃ n : Nat, n ≤ q ∧ vi = .int .i64 (n : Int) ∧ wr.ownsRow (w.heap.size + 1) 33 5 vs (O.fi l (f', g', p', d', c') (none) n).length (M.cells (O.fi l (f', g', p', d', c') (none) n)) ∧ Below W0.heap.size W0 wr) (fun _ vi _ => q - (intOf vi).toNat)
        case atStart => exact ⟨0, by omega, rfl, hown', hb5⟩
        case round =>
          clear hown' hb5
          obtain ⟨n, hn, rfl, hown, hbr⟩ := hrel
          have hfl := O.fi_len l (f', g', p', d', c') (none) n
          have hbs0 := hbr.size
          by_cases hlt : n < q
          · obtain ⟨x, hx⟩ : ∃ m, l[n]? = some m := ⟨_, List.getElem?_eq_getElem (by rw [Hq.out]; exact hlt)⟩
            obtain ⟨b, off, e, hbs, ha⟩ := HA.out wr hbr n _ hx
            cases e
            have hne : ((n : Int) != -1) = true := by simp
            have hst := O.fi_next l (f', g', p', d', c') x none n hx (fun e => by cases e)
            obtain ⟨f, t, p, d, ca⟩ := x
            have Hst := Lib.hid hst
            clear hst hx
            obtain ⟨a0, a1, a2, a3, a4⟩ := ha.five
            go_wp2_with (first
              | (at_builtin; refine wpList_append_own _ rfl _ _ 40 rfl (w.heap.size + 1) 33 i0 (.agg #[.int .i8 0, .int .i8 0, .int .u8 0, .int .u8 0, .bool false]) 5 5 Try.underlying40 hi hz0 hz1 hz2 rfl (by decide) _ _ _ rfl (hown.alloc _) ⟨_, 0, none⟩ 1 1 (M.cell (f, t, p, d, ca)) rfl rfl (row_addO (RowAt.new wr (M.cell (f, t, p, d, ca)).toArray 33)) (M.cell_oneO _) (by unfold maxLen; omega) (by omega) (by simp; omega) ?_; intro v' w5 hown' hgrow _)
              | fail)
            refine ⟨⟨n + 1, by omega, by go_num, ?_, ?_⟩, by simp [intOf]; omega⟩
            · rw [Hst.out, M.cells_snoc, List.length_append]; exact hown'
            · exact (hbr.alloc hbr.size _).grown hgrow (by simp; omega) (fun q hq => by have := (hown.lt q hq).1; omega)
          · obtain rfl : q = n := by omega
            have hall := HALL.out
            rw [Hq.out] at hall
            rw [hall] at hown
            have hfl2 : (O.first l (f', g', p', d', c')).length = q := by rw [O.first_len, Hq.out]
            rw [hfl2] at hown
            have HO := Lib.hid hown
            clear hown hall hfl2 hfl
            go_wp2_with fail
            go_ret
            exact ⟨_, rfl, HO.out, HB.out.1.trans (hbr.mono HB.out.1.size)⟩

end Go.Proofs.Ytdcmjbebkmicaaa
