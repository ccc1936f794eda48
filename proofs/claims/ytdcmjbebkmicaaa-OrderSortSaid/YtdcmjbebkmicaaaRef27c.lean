/- The document's order: Sort. -/
import Derived.Test.YtdcmjbebkmicaaaRef27b
namespace Go.Proofs.Ytdcmjbebkmicaaa
open Go.RowKit Go.Sort Go.Lib

theorem M.At.five' {w : World} {b off : Nat} {m : Mv} (h : M.At w b off m) : w.cell? ⟨b, off, none⟩ = some (.int .i8 m.1) ∧ w.cell? ⟨b, off + 1, none⟩ = some (.int .i8 m.2.1) ∧ w.cell? ⟨b, off + 2, none⟩ = some (.int .u8 m.2.2.1) ∧ w.cell? ⟨b, off + 3, none⟩ = some (.int .u8 m.2.2.2.1) ∧ w.cell? ⟨b, off + 4, none⟩ = some (.bool m.2.2.2.2) :=
  ⟨h 0 _ rfl, h 1 _ rfl, h 2 _ rfl, h 3 _ rfl, h 4 _ rfl⟩
theorem wpOp_loadD {P : Program} {ops : Array Oper} {Q : Exit → Act → World → Prop} {i : Nat} {d : Option Tmp} {K : Act → World → Prop} {a : Act} {w : World} (ho : Nat.blt i ops.size = true) (hd : (ops.getD i default).dst = d) (x : Operand) (hop : (ops.getD i default).op = .load 33 x)
    (hw : Region.wanted (ops.getD i default) (yielded ops a.tmps) = true) (b o : Nat) (hx : a.eval x = .pointer (some ⟨b, o, none⟩)) (m : Mv) (hm : M.At w b o m) (h : K (a.put d (.agg (M.cell m).toArray)) w)
    (hu : P.underlying 33 = Try.prog.underlying 33 := by rfl) (hi : P.info? 33 = Try.prog.info? 33 := by rfl) : wpOp P ops Q i K a w := by
  subst hd
  unfold wpOp
  rw [getD_some ho]
  simp only [hw, if_true]
  exact .inl (wp_load_mid 33 x hop b o hx (M.cell m) _ hm (hu.trans Try.underlying33) rfl (by rw [hi]; exact Try.info_mv _ rfl) h)
theorem wp_store_ownN {o : Oper} {a : Act} {w : World} {Q : Exit → Act → World → Prop} {K : Act → World → Prop} (x y : Operand) (ho : o.op = .store 33 x y) (hd : o.dst = none) {base n cap g : Nat} {l : List Mv} (i : Nat) (m : Mv)
    (hx : a.eval x = .pointer (some ⟨g, i * 5, none⟩)) (hy : a.eval y = .agg #[.int .i8 m.1, .int .i8 m.2.1, .int .u8 m.2.2.1, .int .u8 m.2.2.2.1, .bool m.2.2.2.2]) (hn : l.length = n) (hi : i < n)
    (hown : w.ownsRow base 33 5 (.slice (some ⟨g, 0, none⟩) n cap) n (M.cells l))
    (h : ∀ W' : World, Put g w W' → W'.ownsRow base 33 5 (.slice (some ⟨g, 0, none⟩) n cap) n (M.cells (l.set i m)) → K a W') : o.wp Try.prog a w K Q :=
  wp_store_own x y ho i m hx hy hn hi hown (fun W' hp hw => by rw [hd]; exact h W' hp hw)
theorem exec_sub1 {ev : Operand → Value} {o : Oper} (x y : Operand) (t : TypeId) {k : Nat} (ho : o.op = .binOp .sub 3 x y t) (hx : ev x = .int .i64 ((k : Int) + 1)) (hy : ev y = .int .i64 1) (w : World) (hk : k < 1000000000) : (execOp ev o).run Try.prog w = .ok (.value (.int .i64 (k : Int))) w := by
  have hw1 : IntKind.i64.wrap (k : Int) = (k : Int) := by rw [IntKind.wrap_i64]; omega
  unfold execOp
  simp only [ho, hx, hy]
  simp [go_sem, hw1]
theorem exec_index0 {ev : Operand → Value} {o : Oper} (x y : Operand) {g n cap k : Nat} (ho : o.op = .indexAddr 40 x y) (hx : ev x = .slice (some ⟨g, 0, none⟩) n cap) (hy : ev y = .int .i64 (k : Int)) (w : World) (hk : k < n) : (execOp ev o).run Try.prog w = .ok (.value (.pointer (some ⟨g, k * 5, none⟩))) w := by
  have h1 : (k : Int) < (n : Int) := by omega
  unfold execOp
  simp only [ho, hx, hy]
  simp [go_sem, h1]
theorem exec_index1 {ev : Operand → Value} {o : Oper} (x y : Operand) {g n cap k : Nat} (ho : o.op = .indexAddr 40 x y) (hx : ev x = .slice (some ⟨g, 0, none⟩) n cap) (hy : ev y = .int .i64 ((k : Int) + 1)) (w : World) (hk : k + 1 < n) : (execOp ev o).run Try.prog w = .ok (.value (.pointer (some ⟨g, (k + 1) * 5, none⟩))) w :=
  exec_index0 (k := k + 1) x y ho hx hy w hk
namespace O
/-- One that is on its way down through a sorted row. -/
def ins (s : List Mv) (x : Mv) (k : Nat) : List Mv := s.take k ++ x :: s.drop k
theorem ins_len (s : List Mv) (x : Mv) (k : Nat) (hk : k ≤ s.length) : (ins s x k).length = s.length + 1 := by
  unfold ins; simp; omega
theorem ins_get (s : List Mv) (x : Mv) (k i : Nat) (hk : k ≤ s.length) : (ins s x k)[i]? = if i < k then s[i]? else if i = k then some x else s[i - 1]? := by
  unfold ins
  by_cases h : i < k
  · rw [if_pos h, List.getElem?_append_left (by rw [List.length_take]; omega), List.getElem?_take_of_lt h]
  · rw [if_neg h, List.getElem?_append_right (by rw [List.length_take]; omega), List.length_take, Nat.min_eq_left hk]
    by_cases h2 : i = k
    · subst h2; rw [if_pos rfl, Nat.sub_self]; rfl
    · rw [if_neg h2]
      obtain ⟨m, rfl⟩ : ∃ m, i = k + 1 + m := ⟨i - (k + 1), by omega⟩
      rw [show k + 1 + m - k = m + 1 by omega, List.getElem?_cons_succ, List.getElem?_drop]
      congr 1
      omega
theorem ins_end (s : List Mv) (x : Mv) : ins s x s.length = s ++ [x] := by
  unfold ins; simp
theorem ins_swap (s : List Mv) (x y : Mv) (k : Nat) (hy : s[k]? = some y) : ((ins s x (k + 1)).set (k + 1) y).set k x = ins s x k := by
  have hk := (List.getElem?_eq_some_iff.1 hy).1
  apply List.ext_getElem?
  intro i
  rw [List.getElem?_set, List.length_set, ins_len _ _ _ (by omega), List.getElem?_set, ins_len _ _ _ (by omega), ins_get _ _ _ _ (by omega), ins_get _ _ _ _ (by omega)]
  by_cases h1 : k = i
  · subst h1
    rw [if_pos rfl, if_pos (by omega), if_neg (by omega), if_pos rfl]
  · rw [if_neg h1]
    by_cases h2 : k + 1 = i
    · subst h2
      rw [if_pos rfl, if_pos (by omega), if_neg (by omega), if_neg (by omega), Nat.add_sub_cancel, hy]
    · rw [if_neg h2]
      by_cases h3 : i < k
      · rw [if_pos (by omega), if_pos h3]
      · rw [if_neg (by omega), if_neg (by omega), if_neg h3, if_neg (by omega)]
end O

set_option maxRecDepth 100000 in
set_option maxHeartbeats 8000000 in
theorem d27sort_any (c : Nat → Int) (l : List Mv) (v : Value) (w : World) (hc : PosOk c) (hl : ∀ m ∈ l, O.MvOk m) (hN : l.length ≤ 100000) (hr : M.Reads w v l) :
    Calls Try.prog 18 #[.agg (posC c), v] w fun e w' => ∃ v' l', e = .returned v' ∧ O.Sorted c l l' ∧ w'.ownsRow (w.heap.size + 1) 33 5 v' l.length (M.cells l') ∧ Below w.heap.size w w' := by
  obtain ⟨W0, hW0⟩ : ∃ W0, (w.alloc (.cells (posC c) 31)) = W0 := ⟨_, rfl⟩
  have hS0 : PosAt W0 w.heap.size c ∧ Below w.heap.size w W0 ∧ W0.heap.size = w.heap.size + 1 := by
    rw [← hW0]
    exact ⟨PosAt.new _ _, (Grows.alloc _ _).below, by show (w.heap.push _).size = _; simp⟩
  obtain ⟨hp0, hb0, hsz⟩ := hS0
  obtain ⟨ao, cap, hv, h1, h2, -⟩ := id hr
  subst hv
  have HA := Lib.hid (fun W (h : Below w.heap.size w W) i x (hx : l[i]? = some x) => hr.at h rfl i x hx)
  have HCL := Lib.hid (And.intro hc hl)
  obtain ⟨q, hq⟩ : ∃ q, l.length = q := ⟨_, rfl⟩
  have Hq := Lib.hid hq
  rw [hq] at h1 hN ⊢
  unfold maxLen at h2
  clear hr hc hl hq
  go_enter Try.func18, Try.ntmps18
  go_wp2_with fail
  clear hW0
  obtain ⟨i0, hi, hz0, hz1, hz2⟩ := info_parts Try.info_MoveO
  have HP := Lib.hid (fun W (h : Below W0.heap.size W0 W) => hp0.below h)
  go_loopw [5, 6] (fun vs vi wr => ∃ (n : Nat) (s : List Mv), n ≤ q ∧ vi = .int .i64 (n : Int) ∧ wr.ownsRow (w.heap.size + 1) 33 5 vs s.length (M.cells s) ∧ Hid (O.Sorted c (l.take n) s ∧ s.length = n) ∧ PosAt wr w.heap.size c ∧ Below w.heap.size w wr) (fun _ vi _ => q - (intOf vi).toNat)
  case atStart => exact ⟨0, [], by omega, rfl, World.ownsRow_nil _ _ _ _, Lib.hid ⟨O.sorted_nil c, rfl⟩, hp0, hb0⟩
  case round =>
    clear hp0 hb0
    obtain ⟨n, s, hn, rfl, hown, HS, hp, hbr⟩ := hrel
    have hbs0 := hbr.size
    have hlp := hp.lt
    by_cases hlt : n < q
    · obtain ⟨x, hx⟩ : ∃ m, l[n]? = some m := ⟨_, List.getElem?_eq_getElem (by rw [Hq.out]; exact hlt)⟩
      obtain ⟨b, off, e, hbs, ha⟩ := HA.out wr hbr n _ hx
      cases e
      have HTK := Lib.hid (show l.take (n + 1) = l.take n ++ [x] from by rw [List.take_add_one, hx]; rfl)
      have HX := Lib.hid (HCL.out.2 x (List.mem_of_getElem? hx))
      have HSO := Lib.hid (show ∀ m ∈ s, O.MvOk m from fun m hm => HCL.out.2 m (List.mem_of_mem_take (O.sorted_mem HS.out.1 m hm)))
      have hsl : s.length = n := HS.out.2
      clear hx
      rw [hsl] at hown
      obtain ⟨a0, a1, a2, a3, a4⟩ := ha.five'
      clear hsl
      go_wp2_with (first
        | (at_builtin; refine wpList_append_own _ rfl _ _ 40 rfl (w.heap.size + 1) 33 i0 (.agg #[.int .i8 0, .int .i8 0, .int .u8 0, .int .u8 0, .bool false]) 5 5 Try.underlying40 hi hz0 hz1 hz2 rfl (by decide) _ _ _ rfl (hown.alloc _) ⟨_, 0, none⟩ 1 1 (M.cell x) rfl rfl (row_addO (RowAt.new wr (M.cell x).toArray 33)) (M.cell_oneO _) (by unfold maxLen; omega) (by omega) (by simp; omega) ?_; intro v' w5 hown' hgrow _; have hb1 : Below w.heap.size w w5 := (hbr.alloc hbr.size _).grown hgrow (by simp; omega) (fun q hq => by have := (hown.lt q hq).1; omega); have hp1 : PosAt w5 w.heap.size c := (hp.alloc _).grown hgrow (fun q hq => by have := (hown.lt q hq).1; omega); have hown1 : w5.ownsRow (w.heap.size + 1) 33 5 v' (n + 1) (M.cells (O.ins s x n)) := (by have := HS.out.2; rw [← this, O.ins_end, M.cells_snoc, this]; exact hown'); clear hown hown' hgrow ha a0 a1 a2 a3 a4 hp hbr hbs0 hlp; obtain ⟨g, cap2, rfl, hgb, hgs, hnc, hcm, -⟩ := M.owns_open hown1 (by omega))
        | fail)
      unfold maxLen at hcm
      go_loopw [7] (fun vk wr => ∃ k : Nat, k ≤ n ∧ vk = .int .i64 (k : Int) ∧ wr.ownsRow (w.heap.size + 1) 33 5 (.slice (some ⟨g, 0, none⟩) (n + 1) cap2) (n + 1) (M.cells (O.ins s x k)) ∧ Hid (∀ (j : Nat) (y : Mv), s[j]? = some y → k ≤ j → O.key c x < O.key c y) ∧ PosAt wr w.heap.size c ∧ Below w.heap.size w wr) (fun vk _ => (intOf vk).toNat)
      case atStart => exact ⟨n, Nat.le_refl _, rfl, hown1, Lib.hid (fun j y hj h => absurd (List.getElem?_eq_some_iff.1 hj).1 (by have := HS.out.2; omega)), hp1, hb1⟩
      case round =>
        clear hown1 hb1 hp1
        obtain ⟨k0, hk, rfl, hown, HK, hp, hbr⟩ := hrel
        have hlp := hp.lt
        by_cases hk0 : 0 < k0
        · obtain ⟨k, rfl⟩ : ∃ k, k0 = k + 1 := ⟨k0 - 1, by omega⟩
          rw [show ((k + 1 : Nat) : Int) = (k : Int) + 1 from rfl]
          clear hk0
          obtain ⟨y, hy⟩ : ∃ y, s[k]? = some y := ⟨_, List.getElem?_eq_getElem (by have := HS.out.2; omega)⟩
          have hlen : k + 1 ≤ s.length := by have := HS.out.2; omega
          have hslen := HS.out.2
          have hin : M.At wr g (k * 5) y ∧ M.At wr g ((k + 1) * 5) x ∧ g < wr.heap.size := by
            obtain ⟨b', cap', e, hb1, hb2, hb3, hb4, hb5⟩ := M.owns_open hown (by omega)
            injection e with e1 e2 e3
            injection e1 with e1
            injection e1 with e1 _ _
            subst e1
            exact ⟨M.at_of hb5 k y (by rw [O.ins_get _ _ _ _ hlen, if_pos (by omega), hy]), M.at_of hb5 (k + 1) x (by rw [O.ins_get _ _ _ _ hlen, if_neg (by omega), if_pos rfl]), hb2⟩
          obtain ⟨hay, hax, hlg⟩ := hin
          obtain ⟨bb, hbb⟩ : ∃ bb, O.ahead c x y = bb := ⟨_, rfl⟩
          have KA := Lib.hid (fun W => d27ahead_eq c x y bb W HCL.out.1 HX.out (HSO.out y (List.mem_of_getElem? hy)) hbb)
          have HSW := Lib.hid (O.ins_swap s x y k hy)
          have HY := Lib.hid (And.intro hy hbb)
          have hk1 : (0 : Int) < (k : Int) + 1 := by omega
          have hw1 : IntKind.i64.wrap ((k : Int) + 1 - 1) = (k : Int) := by rw [IntKind.wrap_i64]; omega
          have hq1 : (k : Int) + 1 < (n : Int) + 1 := by omega
          have hq2 : (k : Int) < (n : Int) + 1 := by omega
          clear hy hbb
          go_wp2_with fail
          refine region_below (by kernel_rfl) (by kernel_rfl) ?_
          repeat (first
            | (go_big_quiet_want; refine quiet_load_posB _ rfl ⟨_, _, rfl, hp, ?_⟩; simp only [Act.put, List.setIfInBounds_toArray, List.set_cons_succ, List.set_cons_zero]; go_big_quiet_on)
            | (go_big_quiet_want; refine quiet_load_atB _ rfl ⟨_, _, _, rfl, hay, ?_⟩; simp only [Act.put, List.setIfInBounds_toArray, List.set_cons_succ, List.set_cons_zero]; go_big_quiet_on)
            | (go_big_quiet_want; refine quiet_load_atB _ rfl ⟨_, _, _, rfl, hax, ?_⟩; simp only [Act.put, List.setIfInBounds_toArray, List.set_cons_succ, List.set_cons_zero]; go_big_quiet_on)
            | go_big_quiet_step (first
              | (go_at_call 43; with_reducible exact quiet_below (KA.out _))))
          refine wpQuiet_nil ?_
          intro w4 hb4
          have hown4 := owns_below hown hb4
          have ha4 := hay.below hb4
          have hx4 := hax.below hb4
          have hb4w := hbr.trans (hb4.mono hbr.size)
          have hlg4 := Nat.lt_of_lt_of_le hlg hb4.size
          have hp4 := hp.below hb4
          have hgb : w.heap.size + 1 ≤ g := (hown.lt g rfl).1
          clear hp hlp hay hax hown hbr hlg hb4
          cases bb
          · have hno : O.key c y ≤ O.key c x := by
              have := HY.out.2
              unfold O.ahead at this
              simpa using this
            have HDONE := Lib.hid (O.sorted_snoc (k + 1) hlen HS.out.1 HK.out (fun j z hz hj => by
              by_cases e : j = k
              · subst e; have := HY.out.1; rw [this] at hz; rw [← Option.some.inj hz]; exact hno
              · have := O.sorted_le HS.out.1 j k z y (by omega) hz HY.out.1
                omega))
            clear hno
            go_wp2_with fail
            exact ⟨⟨n + 1, O.ins s x (k + 1), by omega, by go_num, by rw [O.ins_len _ _ _ hlen, hslen]; exact hown4, Lib.hid (show O.Sorted c (l.take (n + 1)) (O.ins s x (k + 1)) ∧ (O.ins s x (k + 1)).length = n + 1 from ⟨by rw [HTK.out]; exact HDONE.out, by rw [O.ins_len _ _ _ hlen, hslen]⟩), hp4, hb4w⟩, by simp [intOf]; omega⟩
          · have hyes : O.key c x < O.key c y := by
              have := HY.out.2
              unfold O.ahead at this
              simpa using this
            have HK2 := Lib.hid (show ∀ (j : Nat) (z : Mv), s[j]? = some z → k ≤ j → O.key c x < O.key c z from fun j z hz hj => by
              by_cases e : j = k
              · subst e; rw [HY.out.1] at hz; rw [← Option.some.inj hz]; exact hyes
              · exact HK.out j z hz (by omega))
            clear hyes
            go_wp2_with fail
            refine wp_region_held (S := fun _ => True) (by kernel_rfl) ?_
            change wpAnyH _ _ _ _ _ _ _ _ w4.drew
            have hownD : w4.drew.ownsRow (w.heap.size + 1) 33 5 (.slice (some ⟨g, 0, none⟩) (n + 1) cap2) (n + 1) (M.cells (O.ins s x (k + 1))) := hown4
            have haD : M.At w4.drew g (k * 5) y := ha4
            have haE : M.At w4.drew g ((k + 1) * 5) x := hx4
            have hbD : Below w.heap.size w w4.drew := M.below_drew hb4w 1
            have hpD : PosAt w4.drew w.heap.size c := ⟨hp4.heap⟩
            have hlD : w4.heap.size = w4.drew.heap.size := rfl
            generalize w4.drew = w5 at hownD haD haE hbD hpD hlD ⊢
            refine takeD 0 (some 41) (.slice (some ⟨g, 0, none⟩) (n + 1) cap2) (by kernel_rfl) (by kernel_rfl) (by kernel_rfl) (by kernel_rfl) (by kernel_rfl) (fun _ _ _ h => h) (yi_pure (v0 := .slice (some ⟨g, 0, none⟩) (n + 1) cap2) (by kernel_rfl) (fun _ => by kernel_rfl) rfl) trivial ?_
            simp only [Act.put, List.setIfInBounds_toArray, List.set_cons_succ, List.set_cons_zero]
            refine takeD 1 (some 42) (.int .i64 ((k : Int) + 1)) (by kernel_rfl) (by kernel_rfl) (by kernel_rfl) (by kernel_rfl) (by kernel_rfl) (fun _ _ _ h => h) (yi_pure (v0 := .int .i64 ((k : Int) + 1)) (by kernel_rfl) (fun _ => by kernel_rfl) rfl) trivial ?_
            simp only [Act.put, List.setIfInBounds_toArray, List.set_cons_succ, List.set_cons_zero]
            refine takeD 2 (some 43) (.slice (some ⟨g, 0, none⟩) (n + 1) cap2) (by kernel_rfl) (by kernel_rfl) (by kernel_rfl) (by kernel_rfl) (by kernel_rfl) (fun _ _ _ h => h) (yi_pure (v0 := .slice (some ⟨g, 0, none⟩) (n + 1) cap2) (by kernel_rfl) (fun _ => by kernel_rfl) rfl) trivial ?_
            simp only [Act.put, List.setIfInBounds_toArray, List.set_cons_succ, List.set_cons_zero]
            refine takeD 3 (some 44) (.int .i64 ((k : Int) + 1)) (by kernel_rfl) (by kernel_rfl) (by kernel_rfl) (by kernel_rfl) (by kernel_rfl) (fun _ _ _ h => h) (yi_pure (v0 := .int .i64 ((k : Int) + 1)) (by kernel_rfl) (fun _ => by kernel_rfl) rfl) trivial ?_
            simp only [Act.put, List.setIfInBounds_toArray, List.set_cons_succ, List.set_cons_zero]
            refine takeD 4 (some 45) (.int .i64 (k : Int)) (by kernel_rfl) (by kernel_rfl) (by kernel_rfl) (by kernel_rfl) (by kernel_rfl) (fun _ _ _ h => h) (yi_pure (v0 := .int .i64 (k : Int)) (by kernel_rfl) (fun w9 => exec_sub1 (k := k) (.tmp 44) (.const (.int .i64 1)) 3 (by kernel_rfl) (by kernel_rfl) (by kernel_rfl) w9 (by omega)) rfl) trivial ?_
            simp only [Act.put, List.setIfInBounds_toArray, List.set_cons_succ, List.set_cons_zero]
            refine takeD 5 (some 46) (.slice (some ⟨g, 0, none⟩) (n + 1) cap2) (by kernel_rfl) (by kernel_rfl) (by kernel_rfl) (by kernel_rfl) (by kernel_rfl) (fun _ _ _ h => h) (yi_pure (v0 := .slice (some ⟨g, 0, none⟩) (n + 1) cap2) (by kernel_rfl) (fun _ => by kernel_rfl) rfl) trivial ?_
            simp only [Act.put, List.setIfInBounds_toArray, List.set_cons_succ, List.set_cons_zero]
            refine takeD 6 (some 47) (.int .i64 ((k : Int) + 1)) (by kernel_rfl) (by kernel_rfl) (by kernel_rfl) (by kernel_rfl) (by kernel_rfl) (fun _ _ _ h => h) (yi_pure (v0 := .int .i64 ((k : Int) + 1)) (by kernel_rfl) (fun _ => by kernel_rfl) rfl) trivial ?_
            simp only [Act.put, List.setIfInBounds_toArray, List.set_cons_succ, List.set_cons_zero]
            refine takeD 7 (some 48) (.int .i64 (k : Int)) (by kernel_rfl) (by kernel_rfl) (by kernel_rfl) (by kernel_rfl) (by kernel_rfl) (fun _ _ _ h => h) (yi_pure (v0 := .int .i64 (k : Int)) (by kernel_rfl) (fun w9 => exec_sub1 (k := k) (.tmp 47) (.const (.int .i64 1)) 3 (by kernel_rfl) (by kernel_rfl) (by kernel_rfl) w9 (by omega)) rfl) trivial ?_
            simp only [Act.put, List.setIfInBounds_toArray, List.set_cons_succ, List.set_cons_zero]
            refine takeD 8 (some 49) (.pointer (some ⟨g, k * 5, none⟩)) (by kernel_rfl) (by kernel_rfl) (by kernel_rfl) (by kernel_rfl) (by kernel_rfl) (fun _ _ _ h => h) (yi_pure (v0 := .pointer (some ⟨g, k * 5, none⟩)) (by kernel_rfl) (fun w9 => exec_index0 (.tmp 46) (.tmp 48) (n := n + 1) (cap := cap2) (k := k) (g := g) (by kernel_rfl) (by kernel_rfl) (by kernel_rfl) w9 (by omega)) rfl) trivial ?_
            simp only [Act.put, List.setIfInBounds_toArray, List.set_cons_succ, List.set_cons_zero]
            refine takeD 10 (some 51) (.slice (some ⟨g, 0, none⟩) (n + 1) cap2) (by kernel_rfl) (by kernel_rfl) (by kernel_rfl) (by kernel_rfl) (by kernel_rfl) (fun _ _ _ h => h) (yi_pure (v0 := .slice (some ⟨g, 0, none⟩) (n + 1) cap2) (by kernel_rfl) (fun _ => by kernel_rfl) rfl) trivial ?_
            simp only [Act.put, List.setIfInBounds_toArray, List.set_cons_succ, List.set_cons_zero]
            refine takeD 11 (some 52) (.int .i64 ((k : Int) + 1)) (by kernel_rfl) (by kernel_rfl) (by kernel_rfl) (by kernel_rfl) (by kernel_rfl) (fun _ _ _ h => h) (yi_pure (v0 := .int .i64 ((k : Int) + 1)) (by kernel_rfl) (fun _ => by kernel_rfl) rfl) trivial ?_
            simp only [Act.put, List.setIfInBounds_toArray, List.set_cons_succ, List.set_cons_zero]
            refine takeD 12 (some 53) (.pointer (some ⟨g, (k + 1) * 5, none⟩)) (by kernel_rfl) (by kernel_rfl) (by kernel_rfl) (by kernel_rfl) (by kernel_rfl) (fun _ _ _ h => h) (yi_pure (v0 := .pointer (some ⟨g, (k + 1) * 5, none⟩)) (by kernel_rfl) (fun w9 => exec_index1 (.tmp 51) (.tmp 52) (n := n + 1) (cap := cap2) (k := k) (g := g) (by kernel_rfl) (by kernel_rfl) (by kernel_rfl) w9 (by omega)) rfl) trivial ?_
            simp only [Act.put, List.setIfInBounds_toArray, List.set_cons_succ, List.set_cons_zero]
            refine wpAnyH_all (rs := [9, 13]) (by kernel_rfl) (by simp) (fun i hi => ?_)
            obtain rfl | rfl : i = 9 ∨ i = 13 := by simpa using hi
            · clear hi
              refine wpOp_loadD (d := some 50) (by kernel_rfl) (by kernel_rfl) (.tmp 49) (by kernel_rfl) (by kernel_rfl) g _ (by kernel_rfl) y haD ?_
              refine ⟨trivial, ?_⟩
              simp only [M.cell, Act.put, List.setIfInBounds_toArray, List.set_cons_succ, List.set_cons_zero]
              refine wpAnyH_all (rs := [13]) (by kernel_rfl) (by simp) (fun i hi => ?_)
              obtain rfl : i = 13 := by simpa using hi
              clear hi
              refine wpOp_loadD (d := some 54) (by kernel_rfl) (by kernel_rfl) (.tmp 53) (by kernel_rfl) (by kernel_rfl) g _ (by kernel_rfl) x haE ?_
              refine ⟨trivial, ?_⟩
              simp only [M.cell, Act.put, List.setIfInBounds_toArray, List.set_cons_succ, List.set_cons_zero]
              refine takeD 14 (some 55) (.pointer (some ⟨g, (k + 1) * 5, none⟩)) (by kernel_rfl) (by kernel_rfl) (by kernel_rfl) (by kernel_rfl) (by kernel_rfl) (fun _ _ _ h => h) (yi_pure (v0 := .pointer (some ⟨g, (k + 1) * 5, none⟩)) (by kernel_rfl) (fun w9 => exec_index1 (.tmp 41) (.tmp 42) (n := n + 1) (cap := cap2) (k := k) (g := g) (by kernel_rfl) (by kernel_rfl) (by kernel_rfl) w9 (by omega)) rfl) trivial ?_
              simp only [Act.put, List.setIfInBounds_toArray, List.set_cons_succ, List.set_cons_zero]
              refine takeOne 15 (by kernel_rfl) (by kernel_rfl) (by kernel_rfl) ?_
              refine wp_store_ownN (.tmp 55) (.tmp 50) (by kernel_rfl) (by kernel_rfl) (k + 1) y (by kernel_rfl) (by kernel_rfl) (by rw [O.ins_len _ _ _ hlen, hslen]) (by omega) hownD ?_
              intro w6 hP6 hown6
              refine ⟨trivial, ?_⟩
              refine takeD 16 (some 56) (.pointer (some ⟨g, k * 5, none⟩)) (by kernel_rfl) (by kernel_rfl) (by kernel_rfl) (by kernel_rfl) (by kernel_rfl) (fun _ _ _ h => h) (yi_pure (v0 := .pointer (some ⟨g, k * 5, none⟩)) (by kernel_rfl) (fun w9 => exec_index0 (.tmp 43) (.tmp 45) (n := n + 1) (cap := cap2) (k := k) (g := g) (by kernel_rfl) (by kernel_rfl) (by kernel_rfl) w9 (by omega)) rfl) trivial ?_
              simp only [Act.put, List.setIfInBounds_toArray, List.set_cons_succ, List.set_cons_zero]
              refine takeOne 17 (by kernel_rfl) (by kernel_rfl) (by kernel_rfl) ?_
              refine wp_store_ownN (.tmp 56) (.tmp 54) (by kernel_rfl) (by kernel_rfl) k x (by kernel_rfl) (by kernel_rfl) (by rw [List.length_set, O.ins_len _ _ _ hlen, hslen]) (by omega) hown6 ?_
              intro w7 hP7 hown7
              rw [HSW.out] at hown7
              refine ⟨trivial, ?_⟩
              refine wpAnyH_done (by kernel_rfl) ?_ _
              have hb7 := hP7.below (hP6.below hbD (by omega)) (by omega)
              have hp7 := hP7.pos (hP6.pos hpD (by omega)) (by omega)
              go_wp2_with fail
              exact ⟨⟨k, by omega, by go_num, hown7, HK2, hp7, hb7⟩, by simp [intOf]⟩
            · clear hi
              refine wpOp_loadD (d := some 54) (by kernel_rfl) (by kernel_rfl) (.tmp 53) (by kernel_rfl) (by kernel_rfl) g _ (by kernel_rfl) x haE ?_
              refine ⟨trivial, ?_⟩
              simp only [M.cell, Act.put, List.setIfInBounds_toArray, List.set_cons_succ, List.set_cons_zero]
              refine wpAnyH_all (rs := [9]) (by kernel_rfl) (by simp) (fun i hi => ?_)
              obtain rfl : i = 9 := by simpa using hi
              clear hi
              refine wpOp_loadD (d := some 50) (by kernel_rfl) (by kernel_rfl) (.tmp 49) (by kernel_rfl) (by kernel_rfl) g _ (by kernel_rfl) y haD ?_
              refine ⟨trivial, ?_⟩
              simp only [M.cell, Act.put, List.setIfInBounds_toArray, List.set_cons_succ, List.set_cons_zero]
              refine takeD 14 (some 55) (.pointer (some ⟨g, (k + 1) * 5, none⟩)) (by kernel_rfl) (by kernel_rfl) (by kernel_rfl) (by kernel_rfl) (by kernel_rfl) (fun _ _ _ h => h) (yi_pure (v0 := .pointer (some ⟨g, (k + 1) * 5, none⟩)) (by kernel_rfl) (fun w9 => exec_index1 (.tmp 41) (.tmp 42) (n := n + 1) (cap := cap2) (k := k) (g := g) (by kernel_rfl) (by kernel_rfl) (by kernel_rfl) w9 (by omega)) rfl) trivial ?_
              simp only [Act.put, List.setIfInBounds_toArray, List.set_cons_succ, List.set_cons_zero]
              refine takeOne 15 (by kernel_rfl) (by kernel_rfl) (by kernel_rfl) ?_
              refine wp_store_ownN (.tmp 55) (.tmp 50) (by kernel_rfl) (by kernel_rfl) (k + 1) y (by kernel_rfl) (by kernel_rfl) (by rw [O.ins_len _ _ _ hlen, hslen]) (by omega) hownD ?_
              intro w6 hP6 hown6
              refine ⟨trivial, ?_⟩
              refine takeD 16 (some 56) (.pointer (some ⟨g, k * 5, none⟩)) (by kernel_rfl) (by kernel_rfl) (by kernel_rfl) (by kernel_rfl) (by kernel_rfl) (fun _ _ _ h => h) (yi_pure (v0 := .pointer (some ⟨g, k * 5, none⟩)) (by kernel_rfl) (fun w9 => exec_index0 (.tmp 43) (.tmp 45) (n := n + 1) (cap := cap2) (k := k) (g := g) (by kernel_rfl) (by kernel_rfl) (by kernel_rfl) w9 (by omega)) rfl) trivial ?_
              simp only [Act.put, List.setIfInBounds_toArray, List.set_cons_succ, List.set_cons_zero]
              refine takeOne 17 (by kernel_rfl) (by kernel_rfl) (by kernel_rfl) ?_
              refine wp_store_ownN (.tmp 56) (.tmp 54) (by kernel_rfl) (by kernel_rfl) k x (by kernel_rfl) (by kernel_rfl) (by rw [List.length_set, O.ins_len _ _ _ hlen, hslen]) (by omega) hown6 ?_
              intro w7 hP7 hown7
              rw [HSW.out] at hown7
              refine ⟨trivial, ?_⟩
              refine wpAnyH_done (by kernel_rfl) ?_ _
              have hb7 := hP7.below (hP6.below hbD (by omega)) (by omega)
              have hp7 := hP7.pos (hP6.pos hpD (by omega)) (by omega)
              go_wp2_with fail
              exact ⟨⟨k, by omega, by go_num, hown7, HK2, hp7, hb7⟩, by simp [intOf]⟩
        · obtain rfl : k0 = 0 := by omega
          have hslen := HS.out.2
          have HDONE := Lib.hid (O.sorted_snoc 0 (Nat.zero_le _) HS.out.1 HK.out (fun j z hz hj => absurd hj (by omega)))
          have hown4 := hown
          have hb4w := hbr
          have hp4 := hp
          clear hk0 hown hbr
          go_wp2_with fail
          refine region_grows (by kernel_rfl) (by kernel_rfl) ?_
          repeat (first
            | go_big_quiet_step (fail))
          refine wpQuiet_nil ?_
          intro w4 hg4
          replace hown4 := owns_below hown4 hg4.below
          replace hp4 := hp4.below hg4.below
          replace hb4w := hb4w.trans (hg4.below.mono hb4w.size)
          go_wp2_with fail
          exact ⟨⟨n + 1, O.ins s x 0, by omega, by go_num, by rw [O.ins_len _ _ _ (Nat.zero_le _), hslen]; exact hown4, Lib.hid (show O.Sorted c (l.take (n + 1)) (O.ins s x 0) ∧ (O.ins s x 0).length = n + 1 from ⟨by rw [HTK.out]; exact HDONE.out, by rw [O.ins_len _ _ _ (Nat.zero_le _), hslen]⟩), hp4, hb4w⟩, by simp [intOf]; omega⟩
    · obtain rfl : q = n := by omega
      have hS := HS.out
      rw [List.take_of_length_le (by rw [Hq.out]; exact Nat.le_refl _)] at hS
      rw [hS.2] at hown
      have HF := Lib.hid (And.intro hS (And.intro hown hbr))
      clear hS hown hbr
      go_wp2_with fail
      go_ret
      exact ⟨_, s, rfl, HF.out.1.1, HF.out.2.1, HF.out.2.2⟩

end Go.Proofs.Ytdcmjbebkmicaaa
