/- The document's order: At, Taken, Moving, Ahead. -/
import Derived.Test.YtdcmjbebkmicaaaOrdQ
import Derived.Test.YtdcmjbebkmicaaaRef05
namespace Go.Proofs.Ytdcmjbebkmicaaa
open Go.RowKit Go.Sort Go.Lib

theorem RowAt.mvO {w : World} {g : Nat} {T : TypeId} {f t p d : Int} {ca : Bool} (h : RowAt w g T #[.int .i8 f, .int .i8 t, .int .u8 p, .int .u8 d, .bool ca]) : w.cell? ⟨g, 0, none⟩ = some (.int .i8 f) ∧ w.cell? ⟨g, 1, none⟩ = some (.int .i8 t) ∧ w.cell? ⟨g, 2, none⟩ = some (.int .u8 p) ∧ w.cell? ⟨g, 3, none⟩ = some (.int .u8 d) ∧ w.cell? ⟨g, 4, none⟩ = some (.bool ca) :=
  ⟨h.cell 0, h.cell 1, h.cell 2, h.cell 3, h.cell 4⟩
/-- A whole position is loaded, in a region whose callees make memory. -/
theorem quiet_load_posB {K : Act → Prop} {a : Act} {o : Oper} {w : World} (x : Operand) (ho : o.op = .load 31 x)
    (h : ∃ (g : Nat) (c : Nat → Int), a.eval x = .pointer (some ⟨g, 0, none⟩) ∧ PosAt w g c ∧ K (a.put o.dst (.agg (posC c)))) : o.quiet Try.prog a (fun w' => ∃ p : Regrown, w' = grow (redrawn w p.d) p.os) K := by
  obtain ⟨g, c, hx, hp, hk⟩ := h
  exact quiet_load_pos x ho c ⟨g, _, _, hx, fun w' ⟨p, e⟩ => by rw [e, heap_grow _ _ _ _ hp.lt]; exact hp.heap⟩ hk
theorem r5is_eqO (p : Int) (b : Bool) (w : World) (h0 : 0 ≤ p) (h : P.isB p = b) : Calls Try.prog 80 #[.int .u8 p] w fun e w' => e = .returned (.bool b) ∧ Below w.heap.size w w' := by
  rw [← h]; exact r5is_walk p w h0
theorem r5color_eqO (p k : Int) (w : World) (h0 : 0 ≤ p) (h : P.color p = k) : Calls Try.prog 75 #[.int .u8 p] w fun e w' => e = .returned (.int .u8 k) ∧ Below w.heap.size w w' := by
  rw [← h]; exact r5color_walk p w h0
namespace O
theorem on_is (c : Nat → Int) (s : Int) : on c s = 0 ∨ P.isB (on c s) = true := by
  unfold on
  split
  · rename_i h; simp only [Bool.and_eq_true] at h; exact .inr h.2
  · exact .inl rfl
theorem taken_doc {c : Nat → Int} (hc : PosOk c) (f t p : Int) (hf : 0 ≤ f ∧ f ≤ 63) (ht : 0 ≤ t ∧ t ≤ 63) (hT : c 78 ≤ 1) :
    taken c (f, t, p, 0, false) = if on c t ≠ 0 ∧ P.color (on c t) ≠ c 78 then P.kind (on c t) else if (on c f = 8 * c 78 + 1 ∧ t = c 83) ∧ f.tmod 8 ≠ t.tmod 8 then 1 else 0 := by
  have h78 := pos_u8' hc (show 78 < 88 by omega) rfl
  have s1 : sq f = true := by unfold sq; simp; omega
  have s2 : sq t = true := by unfold sq; simp; omega
  have hm : P.make (c 78) 1 = 8 * c 78 + 1 := by unfold P.make; rw [if_pos (by omega)]
  have m1 : f.tmod 8 = f % 8 := Int.tmod_eq_emod_of_nonneg hf.1
  have m2 : t.tmod 8 = t % 8 := Int.tmod_eq_emod_of_nonneg ht.1
  unfold taken
  rw [if_neg (by simp [s1, s2]; omega)]
  dsimp only
  rw [hm, m1, m2]
  have hb := on_bd hc t
  have key : (if (t == c 83 && on c f == 8 * c 78 + 1 && f % 8 != t % 8) = true then (1 : Int) else 0) = if (on c f = 8 * c 78 + 1 ∧ t = c 83) ∧ f % 8 ≠ t % 8 then 1 else 0 := by
    by_cases a1 : on c f = 8 * c 78 + 1 <;> by_cases a2 : t = c 83 <;> by_cases a3 : f % 8 = t % 8 <;> simp [a1, a2, a3]
  rw [key]
  rcases on_is c t with h0 | h1
  · have h2 : P.color 0 = 2 := rfl
    rw [h0, h2, if_neg (show ¬ ((2 : Int) == 1 - c 78) = true from by simp; omega), if_neg (show ¬ ((0 : Int) ≠ 0 ∧ (2 : Int) ≠ c 78) from by simp)]
  · have h3 := P.color_is _ hb.1 hb.2 h1
    have hne : on c t ≠ 0 := fun e => by rw [e] at h1; cases h1
    by_cases hcol : P.color (on c t) = c 78
    · rw [if_neg (show ¬ (P.color (on c t) == 1 - c 78) = true from by simp; omega), if_neg (show ¬ (on c t ≠ 0 ∧ P.color (on c t) ≠ c 78) from by simp [hcol])]
    · rw [if_pos (show (P.color (on c t) == 1 - c 78) = true from by simp; omega), if_pos (show on c t ≠ 0 ∧ P.color (on c t) ≠ c 78 from ⟨hne, hcol⟩)]
end O

set_option maxRecDepth 100000 in
set_option maxHeartbeats 1000000 in
theorem d06at_eqO (c : Nat → Int) (s x : Int) (w : World) (hc : PosOk c) (h : O.on c s = x) : Calls Try.prog 74 #[.agg (posC c), .int .i64 s] w fun e w' => e = .returned (.int .u8 x) ∧ Below w.heap.size w w' := by
  have hb0 : Below w.heap.size w (w.alloc (.cells (posC c) 31)) := (Below.refl _ _).alloc (Nat.le_refl _) _
  by_cases hs : 0 ≤ s ∧ s < 64
  · obtain ⟨n, rfl⟩ : ∃ n : Nat, s = (n : Int) := ⟨s.toNat, by omega⟩
    have hn : n < 64 := by omega
    have hbd := posC_board c n hn
    have HP := Lib.hid (PosAt.new w c)
    obtain ⟨h0, h1⟩ := pos_u8' hc (show 1 + n < 88 by omega) (pk_board hn)
    clear hs hc
    have HO : O.on c (n : Int) = if P.isB (c (1 + n)) then c (1 + n) else 0 := by
      unfold O.on O.sq
      rw [Int.toNat_natCast]
      have e1 : decide (0 ≤ (n : Int)) = true := by simp
      have e2 : decide ((n : Int) < 64) = true := by simp; omega
      rw [e1, e2]; rfl
    rw [HO] at h
    have hn63 : ¬ (63 : Int) < (n : Int) := by omega
    obtain ⟨y, hy⟩ : ∃ y, c (1 + n) = y := ⟨_, rfl⟩
    rw [hy] at hbd h0 h1 h
    have HY := Lib.hid hy
    clear HO hy
    cases hi : P.isB y
    · have hx : x = 0 := by rw [← h, hi]; rfl
      subst hx
      clear h
      go_enter Try.func74, Try.ntmps74
      go_wp2_with (go_at_call 80; refine (r5is_eqO _ _ _ (by omega) hi).mono ?_; rintro e w' ⟨rfl, hb⟩)
      go_ret
      exact ⟨rfl, below_next hb0 hb⟩
    · have hx : x = y := by rw [← h, hi]; rfl
      subst hx
      clear h
      go_enter Try.func74, Try.ntmps74
      go_wp2_with (go_at_call 80; refine (r5is_eqO _ _ _ (by omega) hi).mono ?_; rintro e w' ⟨rfl, hb⟩; have hl := (HP.out.below hb).bd hn; rw [HY.out] at hl)
      go_ret
      exact ⟨rfl, below_next hb0 hb⟩
  · have hx : x = 0 := by
      rw [← h]
      unfold O.on O.sq
      rw [if_neg (by simp; omega)]
    subst hx
    clear h hc
    by_cases h0 : s < 0
    · go_enter Try.func74, Try.ntmps74
      go_wp2
      go_ret
      exact ⟨rfl, hb0⟩
    · have h63 : 63 < s := by omega
      go_enter Try.func74, Try.ntmps74
      go_wp2
      go_ret
      exact ⟨rfl, hb0⟩

set_option maxRecDepth 100000 in
set_option maxHeartbeats 4000000 in
theorem d27taken_in (c : Nat → Int) (f t p v : Int) (w : World) (hc : PosOk c) (hf : 0 ≤ f ∧ f ≤ 63) (ht : 0 ≤ t ∧ t ≤ 63) (hT : c 78 ≤ 1) (hv : O.taken c (f, t, p, 0, false) = v) : Calls Try.prog 61 #[.agg (posC c), .agg #[.int .i8 f, .int .i8 t, .int .u8 p, .int .u8 0, .bool false]] w fun e w' => e = .returned (.int .u8 v) ∧ Below w.heap.size w w' := by
  rw [O.taken_doc hc f t p hf ht hT] at hv
  obtain ⟨W0, hW0⟩ : ∃ W0, ((w.alloc (.cells (posC c) 31)).alloc (.cells #[.int .i8 f, .int .i8 t, .int .u8 p, .int .u8 0, .bool false] 33)) = W0 := ⟨_, rfl⟩
  have hS0 : PosAt W0 w.heap.size c ∧ RowAt W0 (w.heap.size + 1) 33 #[.int .i8 f, .int .i8 t, .int .u8 p, .int .u8 0, .bool false] ∧ Below w.heap.size w W0 := by
    rw [← hW0]
    refine ⟨(PosAt.new w c).alloc _, ?_, ((Grows.alloc _ _).trans (Grows.alloc _ _)).below⟩
    have := RowAt.new (w.alloc (.cells (posC c) 31)) #[.int .i8 f, .int .i8 t, .int .u8 p, .int .u8 0, .bool false] 33
    rwa [show (w.alloc (.cells (posC c) 31)).heap.size = w.heap.size + 1 by show (w.heap.push _).size = _; simp] at this
  obtain ⟨hp, hm, hb0⟩ := hS0
  obtain ⟨m0, m1, m2, m3, m4⟩ := hm.mvO
  have h78 := hp.cell (i := 78) (by decide)
  have h83 := hp.cell (i := 83) (by decide)
  rw [show pk 78 = .u8 from rfl] at h78
  rw [show pk 83 = .i8 from rfl] at h83
  have hv0 := (pos_u8' hc (show 78 < 88 by omega) rfl).1
  obtain ⟨x, hx⟩ : ∃ x, O.on c t = x := ⟨_, rfl⟩
  obtain ⟨y, hy⟩ : ∃ y, O.on c f = y := ⟨_, rfl⟩
  have hxb := O.on_bd hc t
  rw [hx] at hv hxb
  rw [hy] at hv
  have HX := Lib.hid (fun W => d06at_eqO c t x W hc hx)
  have HY := Lib.hid (fun W => d06at_eqO c f y W hc hy)
  have HP := Lib.hid (fun W (h : Below W0.heap.size W0 W) => (show PosAt W w.heap.size c ∧ RowAt W (w.heap.size + 1) 33 #[.int .i8 f, .int .i8 t, .int .u8 p, .int .u8 0, .bool false] ∧ W.cell? ⟨w.heap.size, 78, none⟩ = some (.int .u8 (c 78)) ∧ W.cell? ⟨w.heap.size, 83, none⟩ = some (.int .i8 (c 83)) from ⟨hp.below h, hm.below h, (hp.below h).cell (i := 78) (by decide), (hp.below h).cell (i := 83) (by decide)⟩))
  obtain ⟨Z, hZ⟩ : ∃ Z, c 83 = Z := ⟨_, rfl⟩
  rw [hZ] at hv HP h83
  obtain ⟨hf0, hf1⟩ := hf
  obtain ⟨ht0, ht1⟩ := ht
  have hwf : IntKind.i64.wrap f = f := by rw [IntKind.wrap_i64]; omega
  have hwt : IntKind.i64.wrap t = t := by rw [IntKind.wrap_i64]; omega
  have hw1 : IntKind.i8.wrap (f.tmod 8) = f.tmod 8 := by
    have := Int.tmod_eq_emod_of_nonneg (b := 8) hf0
    unfold IntKind.wrap; simp [IntKind.bits, IntKind.signed]; omega
  have hw2 : IntKind.i8.wrap (t.tmod 8) = t.tmod 8 := by
    have := Int.tmod_eq_emod_of_nonneg (b := 8) ht0
    unfold IntKind.wrap; simp [IntKind.bits, IntKind.signed]; omega
  have f1 : decide (f < 0) = false := by simp; omega
  have f2 : decide (63 < f) = false := by simp; omega
  have f3 : decide (t < 0) = false := by simp; omega
  have f4 : decide (63 < t) = false := by simp; omega
  have HB := Lib.hid hb0
  have hsz := hm.lt
  clear hf0 hf1 ht0 ht1 hZ hx hy hc hb0
  rcases (show c 78 = 0 ∨ c 78 = 1 by omega) with hT0 | hT0
  · rw [hT0] at hv HP h78
    clear hT hT0 hv0
    by_cases hxc : x ≠ 0 ∧ P.color x ≠ 0
    · rw [if_pos hxc] at hv
      obtain ⟨hx0, hcol⟩ := hxc
      obtain ⟨k, hk⟩ : ∃ k, P.color x = k := ⟨_, rfl⟩
      rw [hk] at hcol
      have KC := Lib.hid (fun W => r5color_eqO x k W hxb.1 hk)
      have KK := Lib.hid (fun W => r5kind_walk x W hxb.1)
      rw [hv] at KK
      have e1 : (x != 0) = true := by simpa using hx0
      have e2 : (k != 0) = true := by simpa using hcol
      clear hxb hx0 hcol hk hv
      go_enter Try.func61, Try.ntmps61
      go_wp2_with (first
        | ((with_reducible refine wp_load_box rfl _ rfl ?_); refine ⟨_, _, rfl, hp, ?_⟩)
        | fail)
      clear hp hm
      clear hW0
      refine (HX.out _).mono ?_
      rintro e w1 ⟨rfl, hb1⟩
      obtain ⟨hp, hm, h78, h83⟩ := HP.out w1 hb1
      have hsz1 := Nat.lt_of_lt_of_le hsz hb1.size
      have hsz0 : w.heap.size < w1.heap.size := by omega
      go_wp2_with fail
      refine region_below (by kernel_rfl) (by kernel_rfl) ?_
      repeat (first
        | go_big_quiet_step (first
          | (go_at_call 75; exact quiet_below (KC.out _))))
      refine wpQuiet_nil ?_
      intro w2 hb2
      go_wp2_with fail
      refine (KK.out _).mono ?_
      rintro e w3 ⟨rfl, hb3⟩
      go_wp2_with fail
      go_ret
      exact ⟨rfl, below_next (below_next (below_next HB.out hb1) hb2) hb3⟩
    · rw [if_neg hxc] at hv
      by_cases hx0 : x = 0
      · subst hx0
        clear hxb
        go_enter Try.func61, Try.ntmps61
        go_wp2_with (first
          | ((with_reducible refine wp_load_box rfl _ rfl ?_); refine ⟨_, _, rfl, hp, ?_⟩)
          | fail)
        clear hp hm
        clear hW0
        refine (HX.out _).mono ?_
        rintro e w1 ⟨rfl, hb1⟩
        obtain ⟨hp, hm, h78, h83⟩ := HP.out w1 hb1
        have hsz1 := Nat.lt_of_lt_of_le hsz hb1.size
        have hsz0 : w.heap.size < w1.heap.size := by omega
        go_wp2_with fail
        refine region_below (by kernel_rfl) (by kernel_rfl) ?_
        repeat (first
          | go_big_quiet_step (fail))
        refine wpQuiet_nil ?_
        intro w2 hb2
        have hbw2 := hb1.trans (hb2.mono hb1.size)
        obtain ⟨hp, hm, h78, h83⟩ := HP.out w2 hbw2
        obtain ⟨n0, n1, n2, n3, n4⟩ := hm.mvO
        have hsz2 := Nat.lt_of_lt_of_le hsz hbw2.size
        have hsz3 : w.heap.size < w2.heap.size := by omega
        go_wp2_with fail
        refine region_below (by kernel_rfl) (by kernel_rfl) ?_
        repeat (first
          | (go_big_quiet_want; refine quiet_load_posB _ rfl ⟨_, _, rfl, hp, ?_⟩; simp only [Act.put, List.setIfInBounds_toArray, List.set_cons_succ, List.set_cons_zero]; go_big_quiet_on)
          | go_big_quiet_step (first
            | (go_at_call 74; exact quiet_below (HY.out _))))
        refine wpQuiet_nil ?_
        intro w4 hb4
        have hbw4 := hbw2.trans (hb4.mono hbw2.size)
        have HE := Lib.hid (HB.out.trans (hbw4.mono HB.out.size))
        replace HP := HP.out w4 hbw4
        clear hp hm h78 h83 n0 n1 n2 n3 n4 hsz2 hsz3 hb1 hb2 hb4 hbw2 hbw4
        obtain ⟨hp, hm, h78, h83⟩ := HP
        obtain ⟨n0, n1, n2, n3, n4⟩ := hm.mvO
        by_cases hy0 : y = 1
        · subst hy0
          by_cases htz : t = Z
          · subst htz
            by_cases hmd : f.tmod 8 = t.tmod 8
            · rw [if_neg (fun h => h.2 hmd)] at hv
              subst hv
              have e9 : (f.tmod 8 != t.tmod 8) = false := by simpa using hmd
              clear hmd
              go_wp2_with fail
              go_ret
              exact ⟨rfl, HE.out⟩
            · rw [if_pos ⟨⟨by rfl, rfl⟩, hmd⟩] at hv
              subst hv
              have e9 : (f.tmod 8 != t.tmod 8) = true := by simpa using hmd
              clear hmd
              go_wp2_with fail
              go_ret
              exact ⟨rfl, HE.out⟩
          · rw [if_neg (fun h => htz h.1.2)] at hv
            subst hv
            have e9 : (t == Z) = false := by simpa using htz
            clear htz
            go_wp2_with fail
            go_ret
            exact ⟨rfl, HE.out⟩
        · rw [if_neg (fun h => hy0 (by have := h.1.1; omega))] at hv
          subst hv
          have e9 : (y == 1) = false := by simpa using hy0
          clear hy0
          go_wp2_with fail
          go_ret
          exact ⟨rfl, HE.out⟩
      · have e1 : (x != 0) = true := by simpa using hx0
        have hk : P.color x = 0 := by
          rcases Classical.em (P.color x = 0) with h | h
          · exact h
          · exact absurd ⟨hx0, h⟩ hxc
        have KC := Lib.hid (fun W => r5color_eqO x 0 W hxb.1 hk)
        clear hk hx0 hxc
        clear hxb
        go_enter Try.func61, Try.ntmps61
        go_wp2_with (first
          | ((with_reducible refine wp_load_box rfl _ rfl ?_); refine ⟨_, _, rfl, hp, ?_⟩)
          | fail)
        clear hp hm
        clear hW0
        refine (HX.out _).mono ?_
        rintro e w1 ⟨rfl, hb1⟩
        obtain ⟨hp, hm, h78, h83⟩ := HP.out w1 hb1
        have hsz1 := Nat.lt_of_lt_of_le hsz hb1.size
        have hsz0 : w.heap.size < w1.heap.size := by omega
        go_wp2_with fail
        refine region_below (by kernel_rfl) (by kernel_rfl) ?_
        repeat (first
          | go_big_quiet_step (first
            | (go_at_call 75; exact quiet_below (KC.out _))))
        refine wpQuiet_nil ?_
        intro w2 hb2
        have hbw2 := hb1.trans (hb2.mono hb1.size)
        obtain ⟨hp, hm, h78, h83⟩ := HP.out w2 hbw2
        obtain ⟨n0, n1, n2, n3, n4⟩ := hm.mvO
        have hsz2 := Nat.lt_of_lt_of_le hsz hbw2.size
        have hsz3 : w.heap.size < w2.heap.size := by omega
        go_wp2_with fail
        refine region_below (by kernel_rfl) (by kernel_rfl) ?_
        repeat (first
          | (go_big_quiet_want; refine quiet_load_posB _ rfl ⟨_, _, rfl, hp, ?_⟩; simp only [Act.put, List.setIfInBounds_toArray, List.set_cons_succ, List.set_cons_zero]; go_big_quiet_on)
          | go_big_quiet_step (first
            | (go_at_call 74; exact quiet_below (HY.out _))))
        refine wpQuiet_nil ?_
        intro w4 hb4
        have hbw4 := hbw2.trans (hb4.mono hbw2.size)
        have HE := Lib.hid (HB.out.trans (hbw4.mono HB.out.size))
        replace HP := HP.out w4 hbw4
        clear hp hm h78 h83 n0 n1 n2 n3 n4 hsz2 hsz3 hb1 hb2 hb4 hbw2 hbw4
        obtain ⟨hp, hm, h78, h83⟩ := HP
        obtain ⟨n0, n1, n2, n3, n4⟩ := hm.mvO
        by_cases hy0 : y = 1
        · subst hy0
          by_cases htz : t = Z
          · subst htz
            by_cases hmd : f.tmod 8 = t.tmod 8
            · rw [if_neg (fun h => h.2 hmd)] at hv
              subst hv
              have e9 : (f.tmod 8 != t.tmod 8) = false := by simpa using hmd
              clear hmd
              go_wp2_with fail
              go_ret
              exact ⟨rfl, HE.out⟩
            · rw [if_pos ⟨⟨by rfl, rfl⟩, hmd⟩] at hv
              subst hv
              have e9 : (f.tmod 8 != t.tmod 8) = true := by simpa using hmd
              clear hmd
              go_wp2_with fail
              go_ret
              exact ⟨rfl, HE.out⟩
          · rw [if_neg (fun h => htz h.1.2)] at hv
            subst hv
            have e9 : (t == Z) = false := by simpa using htz
            clear htz
            go_wp2_with fail
            go_ret
            exact ⟨rfl, HE.out⟩
        · rw [if_neg (fun h => hy0 (by have := h.1.1; omega))] at hv
          subst hv
          have e9 : (y == 1) = false := by simpa using hy0
          clear hy0
          go_wp2_with fail
          go_ret
          exact ⟨rfl, HE.out⟩
  · rw [hT0] at hv HP h78
    clear hT hT0 hv0
    by_cases hxc : x ≠ 0 ∧ P.color x ≠ 1
    · rw [if_pos hxc] at hv
      obtain ⟨hx0, hcol⟩ := hxc
      obtain ⟨k, hk⟩ : ∃ k, P.color x = k := ⟨_, rfl⟩
      rw [hk] at hcol
      have KC := Lib.hid (fun W => r5color_eqO x k W hxb.1 hk)
      have KK := Lib.hid (fun W => r5kind_walk x W hxb.1)
      rw [hv] at KK
      have e1 : (x != 0) = true := by simpa using hx0
      have e2 : (k != 1) = true := by simpa using hcol
      clear hxb hx0 hcol hk hv
      go_enter Try.func61, Try.ntmps61
      go_wp2_with (first
        | ((with_reducible refine wp_load_box rfl _ rfl ?_); refine ⟨_, _, rfl, hp, ?_⟩)
        | fail)
      clear hp hm
      clear hW0
      refine (HX.out _).mono ?_
      rintro e w1 ⟨rfl, hb1⟩
      obtain ⟨hp, hm, h78, h83⟩ := HP.out w1 hb1
      have hsz1 := Nat.lt_of_lt_of_le hsz hb1.size
      have hsz0 : w.heap.size < w1.heap.size := by omega
      go_wp2_with fail
      refine region_below (by kernel_rfl) (by kernel_rfl) ?_
      repeat (first
        | go_big_quiet_step (first
          | (go_at_call 75; exact quiet_below (KC.out _))))
      refine wpQuiet_nil ?_
      intro w2 hb2
      go_wp2_with fail
      refine (KK.out _).mono ?_
      rintro e w3 ⟨rfl, hb3⟩
      go_wp2_with fail
      go_ret
      exact ⟨rfl, below_next (below_next (below_next HB.out hb1) hb2) hb3⟩
    · rw [if_neg hxc] at hv
      by_cases hx0 : x = 0
      · subst hx0
        clear hxb
        go_enter Try.func61, Try.ntmps61
        go_wp2_with (first
          | ((with_reducible refine wp_load_box rfl _ rfl ?_); refine ⟨_, _, rfl, hp, ?_⟩)
          | fail)
        clear hp hm
        clear hW0
        refine (HX.out _).mono ?_
        rintro e w1 ⟨rfl, hb1⟩
        obtain ⟨hp, hm, h78, h83⟩ := HP.out w1 hb1
        have hsz1 := Nat.lt_of_lt_of_le hsz hb1.size
        have hsz0 : w.heap.size < w1.heap.size := by omega
        go_wp2_with fail
        refine region_below (by kernel_rfl) (by kernel_rfl) ?_
        repeat (first
          | go_big_quiet_step (fail))
        refine wpQuiet_nil ?_
        intro w2 hb2
        have hbw2 := hb1.trans (hb2.mono hb1.size)
        obtain ⟨hp, hm, h78, h83⟩ := HP.out w2 hbw2
        obtain ⟨n0, n1, n2, n3, n4⟩ := hm.mvO
        have hsz2 := Nat.lt_of_lt_of_le hsz hbw2.size
        have hsz3 : w.heap.size < w2.heap.size := by omega
        go_wp2_with fail
        refine region_below (by kernel_rfl) (by kernel_rfl) ?_
        repeat (first
          | (go_big_quiet_want; refine quiet_load_posB _ rfl ⟨_, _, rfl, hp, ?_⟩; simp only [Act.put, List.setIfInBounds_toArray, List.set_cons_succ, List.set_cons_zero]; go_big_quiet_on)
          | go_big_quiet_step (first
            | (go_at_call 74; exact quiet_below (HY.out _))))
        refine wpQuiet_nil ?_
        intro w4 hb4
        have hbw4 := hbw2.trans (hb4.mono hbw2.size)
        have HE := Lib.hid (HB.out.trans (hbw4.mono HB.out.size))
        replace HP := HP.out w4 hbw4
        clear hp hm h78 h83 n0 n1 n2 n3 n4 hsz2 hsz3 hb1 hb2 hb4 hbw2 hbw4
        obtain ⟨hp, hm, h78, h83⟩ := HP
        obtain ⟨n0, n1, n2, n3, n4⟩ := hm.mvO
        by_cases hy0 : y = 9
        · subst hy0
          by_cases htz : t = Z
          · subst htz
            by_cases hmd : f.tmod 8 = t.tmod 8
            · rw [if_neg (fun h => h.2 hmd)] at hv
              subst hv
              have e9 : (f.tmod 8 != t.tmod 8) = false := by simpa using hmd
              clear hmd
              go_wp2_with fail
              go_ret
              exact ⟨rfl, HE.out⟩
            · rw [if_pos ⟨⟨by rfl, rfl⟩, hmd⟩] at hv
              subst hv
              have e9 : (f.tmod 8 != t.tmod 8) = true := by simpa using hmd
              clear hmd
              go_wp2_with fail
              go_ret
              exact ⟨rfl, HE.out⟩
          · rw [if_neg (fun h => htz h.1.2)] at hv
            subst hv
            have e9 : (t == Z) = false := by simpa using htz
            clear htz
            go_wp2_with fail
            go_ret
            exact ⟨rfl, HE.out⟩
        · rw [if_neg (fun h => hy0 (by have := h.1.1; omega))] at hv
          subst hv
          have e9 : (y == 9) = false := by simpa using hy0
          clear hy0
          go_wp2_with fail
          go_ret
          exact ⟨rfl, HE.out⟩
      · have e1 : (x != 0) = true := by simpa using hx0
        have hk : P.color x = 1 := by
          rcases Classical.em (P.color x = 1) with h | h
          · exact h
          · exact absurd ⟨hx0, h⟩ hxc
        have KC := Lib.hid (fun W => r5color_eqO x 1 W hxb.1 hk)
        clear hk hx0 hxc
        clear hxb
        go_enter Try.func61, Try.ntmps61
        go_wp2_with (first
          | ((with_reducible refine wp_load_box rfl _ rfl ?_); refine ⟨_, _, rfl, hp, ?_⟩)
          | fail)
        clear hp hm
        clear hW0
        refine (HX.out _).mono ?_
        rintro e w1 ⟨rfl, hb1⟩
        obtain ⟨hp, hm, h78, h83⟩ := HP.out w1 hb1
        have hsz1 := Nat.lt_of_lt_of_le hsz hb1.size
        have hsz0 : w.heap.size < w1.heap.size := by omega
        go_wp2_with fail
        refine region_below (by kernel_rfl) (by kernel_rfl) ?_
        repeat (first
          | go_big_quiet_step (first
            | (go_at_call 75; exact quiet_below (KC.out _))))
        refine wpQuiet_nil ?_
        intro w2 hb2
        have hbw2 := hb1.trans (hb2.mono hb1.size)
        obtain ⟨hp, hm, h78, h83⟩ := HP.out w2 hbw2
        obtain ⟨n0, n1, n2, n3, n4⟩ := hm.mvO
        have hsz2 := Nat.lt_of_lt_of_le hsz hbw2.size
        have hsz3 : w.heap.size < w2.heap.size := by omega
        go_wp2_with fail
        refine region_below (by kernel_rfl) (by kernel_rfl) ?_
        repeat (first
          | (go_big_quiet_want; refine quiet_load_posB _ rfl ⟨_, _, rfl, hp, ?_⟩; simp only [Act.put, List.setIfInBounds_toArray, List.set_cons_succ, List.set_cons_zero]; go_big_quiet_on)
          | go_big_quiet_step (first
            | (go_at_call 74; exact quiet_below (HY.out _))))
        refine wpQuiet_nil ?_
        intro w4 hb4
        have hbw4 := hbw2.trans (hb4.mono hbw2.size)
        have HE := Lib.hid (HB.out.trans (hbw4.mono HB.out.size))
        replace HP := HP.out w4 hbw4
        clear hp hm h78 h83 n0 n1 n2 n3 n4 hsz2 hsz3 hb1 hb2 hb4 hbw2 hbw4
        obtain ⟨hp, hm, h78, h83⟩ := HP
        obtain ⟨n0, n1, n2, n3, n4⟩ := hm.mvO
        by_cases hy0 : y = 9
        · subst hy0
          by_cases htz : t = Z
          · subst htz
            by_cases hmd : f.tmod 8 = t.tmod 8
            · rw [if_neg (fun h => h.2 hmd)] at hv
              subst hv
              have e9 : (f.tmod 8 != t.tmod 8) = false := by simpa using hmd
              clear hmd
              go_wp2_with fail
              go_ret
              exact ⟨rfl, HE.out⟩
            · rw [if_pos ⟨⟨by rfl, rfl⟩, hmd⟩] at hv
              subst hv
              have e9 : (f.tmod 8 != t.tmod 8) = true := by simpa using hmd
              clear hmd
              go_wp2_with fail
              go_ret
              exact ⟨rfl, HE.out⟩
          · rw [if_neg (fun h => htz h.1.2)] at hv
            subst hv
            have e9 : (t == Z) = false := by simpa using htz
            clear htz
            go_wp2_with fail
            go_ret
            exact ⟨rfl, HE.out⟩
        · rw [if_neg (fun h => hy0 (by have := h.1.1; omega))] at hv
          subst hv
          have e9 : (y == 9) = false := by simpa using hy0
          clear hy0
          go_wp2_with fail
          go_ret
          exact ⟨rfl, HE.out⟩

set_option maxRecDepth 100000 in
set_option maxHeartbeats 4000000 in
theorem d27taken_eq (c : Nat → Int) (f t p d : Int) (ca : Bool) (v : Int) (w : World) (hc : PosOk c) (hmo : O.MvOk (f, t, p, d, ca)) (hv : O.taken c (f, t, p, d, ca) = v) : Calls Try.prog 61 #[.agg (posC c), .agg #[.int .i8 f, .int .i8 t, .int .u8 p, .int .u8 d, .bool ca]] w fun e w' => e = .returned (.int .u8 v) ∧ Below w.heap.size w w' := by
  obtain ⟨W0, hW0⟩ : ∃ W0, ((w.alloc (.cells (posC c) 31)).alloc (.cells #[.int .i8 f, .int .i8 t, .int .u8 p, .int .u8 d, .bool ca] 33)) = W0 := ⟨_, rfl⟩
  have hS0 : PosAt W0 w.heap.size c ∧ RowAt W0 (w.heap.size + 1) 33 #[.int .i8 f, .int .i8 t, .int .u8 p, .int .u8 d, .bool ca] ∧ Below w.heap.size w W0 := by
    rw [← hW0]
    refine ⟨(PosAt.new w c).alloc _, ?_, ((Grows.alloc _ _).trans (Grows.alloc _ _)).below⟩
    have := RowAt.new (w.alloc (.cells (posC c) 31)) #[.int .i8 f, .int .i8 t, .int .u8 p, .int .u8 d, .bool ca] 33
    rwa [show (w.alloc (.cells (posC c) 31)).heap.size = w.heap.size + 1 by show (w.heap.push _).size = _; simp] at this
  obtain ⟨hp, hm, hb0⟩ := hS0
  obtain ⟨m0, m1, m2, m3, m4⟩ := hm.mvO
  have h78 := hp.cell (i := 78) (by decide)
  rw [show pk 78 = .u8 from rfl] at h78
  by_cases hd : 0 < d
  · have hv0 : v = 0 := by rw [← hv]; unfold O.taken; rw [if_pos (by simp; omega)]
    subst hv0
    clear hv hmo hc hp hm
    go_enter Try.func61, Try.ntmps61
    go_wp2_with fail
    go_ret
    exact ⟨rfl, hb0⟩
  · obtain rfl : d = 0 := by have := hmo.2.2.2.1; dsimp only at this; omega
    cases ca
    · by_cases h1 : 1 < c 78
      · have hv0 : v = 0 := by rw [← hv]; unfold O.taken; rw [if_pos (by simp [h1])]
        subst hv0
        clear hv hmo hc hp hm
        obtain ⟨T, hT⟩ : ∃ T, c 78 = T := ⟨_, rfl⟩
        rw [hT] at h78 h1
        clear hT
        by_cases q1 : f < 0
        · go_enter Try.func61, Try.ntmps61
          go_wp2_with fail
          go_ret
          exact ⟨rfl, hb0⟩
        · have e1 : decide (f < 0) = false := by simpa using q1
          by_cases q2 : 63 < f
          · go_enter Try.func61, Try.ntmps61
            go_wp2_with fail
            go_ret
            exact ⟨rfl, hb0⟩
          · have e2 : decide (63 < f) = false := by simpa using q2
            by_cases q3 : t < 0
            · go_enter Try.func61, Try.ntmps61
              go_wp2_with fail
              go_ret
              exact ⟨rfl, hb0⟩
            · have e3 : decide (t < 0) = false := by simpa using q3
              by_cases q4 : 63 < t
              · go_enter Try.func61, Try.ntmps61
                go_wp2_with fail
                go_ret
                exact ⟨rfl, hb0⟩
              · have e4 : decide (63 < t) = false := by simpa using q4
                clear q1 q2 q3 q4
                go_enter Try.func61, Try.ntmps61
                go_wp2_with fail
                go_ret
                exact ⟨rfl, hb0⟩
      · by_cases hin : (0 ≤ f ∧ f ≤ 63) ∧ 0 ≤ t ∧ t ≤ 63
        · exact d27taken_in c f t p v w hc hin.1 hin.2 (by omega) hv
        · have hv0 : v = 0 := by
            rw [← hv]; unfold O.taken O.sq
            rw [if_pos]
            simp only [Bool.or_eq_true, Bool.not_eq_true', Bool.and_eq_false_iff, decide_eq_false_iff_not, decide_eq_true_eq]
            omega
          subst hv0
          clear hv hmo hc hp hm h1
          by_cases q1 : f < 0
          · go_enter Try.func61, Try.ntmps61
            go_wp2_with fail
            go_ret
            exact ⟨rfl, hb0⟩
          · have e1 : decide (f < 0) = false := by simpa using q1
            by_cases q2 : 63 < f
            · go_enter Try.func61, Try.ntmps61
              go_wp2_with fail
              go_ret
              exact ⟨rfl, hb0⟩
            · have e2 : decide (63 < f) = false := by simpa using q2
              by_cases q3 : t < 0
              · go_enter Try.func61, Try.ntmps61
                go_wp2_with fail
                go_ret
                exact ⟨rfl, hb0⟩
              · have e3 : decide (t < 0) = false := by simpa using q3
                have q4 : 63 < t := by omega
                clear q1 q2 q3 hin
                go_enter Try.func61, Try.ntmps61
                go_wp2_with fail
                go_ret
                exact ⟨rfl, hb0⟩
    · have hv0 : v = 0 := by rw [← hv]; unfold O.taken; rw [if_pos (by simp)]
      subst hv0
      clear hv hmo hc hp hm
      go_enter Try.func61, Try.ntmps61
      go_wp2_with fail
      go_ret
      exact ⟨rfl, hb0⟩

set_option maxRecDepth 100000 in
set_option maxHeartbeats 4000000 in
theorem d27moving_eq (c : Nat → Int) (f t p d : Int) (ca : Bool) (v : Int) (w : World) (hc : PosOk c) (hmo : O.MvOk (f, t, p, d, ca)) (hv : O.moving c (f, t, p, d, ca) = v) : Calls Try.prog 62 #[.agg (posC c), .agg #[.int .i8 f, .int .i8 t, .int .u8 p, .int .u8 d, .bool ca]] w fun e w' => e = .returned (.int .u8 v) ∧ Below w.heap.size w w' := by
  obtain ⟨W0, hW0⟩ : ∃ W0, ((w.alloc (.cells (posC c) 31)).alloc (.cells #[.int .i8 f, .int .i8 t, .int .u8 p, .int .u8 d, .bool ca] 33)) = W0 := ⟨_, rfl⟩
  have hS0 : PosAt W0 w.heap.size c ∧ RowAt W0 (w.heap.size + 1) 33 #[.int .i8 f, .int .i8 t, .int .u8 p, .int .u8 d, .bool ca] ∧ Below w.heap.size w W0 := by
    rw [← hW0]
    refine ⟨(PosAt.new w c).alloc _, ?_, ((Grows.alloc _ _).trans (Grows.alloc _ _)).below⟩
    have := RowAt.new (w.alloc (.cells (posC c) 31)) #[.int .i8 f, .int .i8 t, .int .u8 p, .int .u8 d, .bool ca] 33
    rwa [show (w.alloc (.cells (posC c) 31)).heap.size = w.heap.size + 1 by show (w.heap.push _).size = _; simp] at this
  obtain ⟨hp, hm, hb0⟩ := hS0
  obtain ⟨m0, m1, m2, m3, m4⟩ := hm.mvO
  by_cases hd : 0 < d
  · have hv0 : v = d := by rw [← hv]; unfold O.moving; rw [if_pos (by simp; omega)]
    subst hv0
    clear hv hmo hc hp hm
    go_enter Try.func62, Try.ntmps62
    go_wp2_with fail
    go_ret
    exact ⟨rfl, hb0⟩
  · obtain rfl : d = 0 := by have := hmo.2.2.2.1; dsimp only at this; omega
    obtain ⟨y, hy⟩ : ∃ y, O.on c f = y := ⟨_, rfl⟩
    have hyb := (O.on_bd hc f).1
    have hvk : P.kind y = v := by rw [← hv, ← hy]; unfold O.moving; rw [if_neg (by simp)]
    rw [hy] at hyb
    have HY := Lib.hid (fun W => d06at_eqO c f y W hc hy)
    have KK := Lib.hid (fun W => r5kind_walk y W hyb)
    rw [hvk] at KK
    have hwf : IntKind.i64.wrap f = f := by rw [IntKind.wrap_i64]; have := hmo.1; dsimp only at this; omega
    have HH := Lib.hid (And.intro hp hb0)
    clear hv hmo hc hm hvk hy hyb hp hb0
    go_enter Try.func62, Try.ntmps62
    go_wp2_with (first
      | ((with_reducible refine wp_load_box rfl _ rfl ?_); refine ⟨_, _, rfl, HH.out.1, ?_⟩)
      | fail)
    clear hW0
    refine (HY.out _).mono ?_
    rintro e w1 ⟨rfl, hb1⟩
    go_wp2_with fail
    refine (KK.out _).mono ?_
    rintro e w2 ⟨rfl, hb2⟩
    go_wp2_with fail
    go_ret
    exact ⟨rfl, below_next (below_next HH.out.2 hb1) hb2⟩

end Go.Proofs.Ytdcmjbebkmicaaa
