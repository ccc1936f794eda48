/- The laws of layer 8: AttackBy, AttackFrom, AttackCheck: the walks. -/
import Derived.Test.YtdfgpbighadplaaDoorLaw08
import Derived.Test.YtdfgpbighadplaaDoorPlainD
namespace Go.Proofs.YtdfgpbighadplaaDoor
open Go.RowKit Go.Sort

theorem pos_u8 {c : Nat → Int} (h : PosOk c) {i : Nat} (hi : i < 88) (hk : pk i = .u8) : 0 ≤ c i ∧ c i ≤ 255 := by
  have := h i hi
  rw [hk] at this
  exact bounds_u8 this
theorem pos_bd {c : Nat → Int} (h : PosOk c) : BdOk c := fun s hs => pos_u8 h (by omega) (pk_board hs)

theorem quiet_load_box {K : Act → Prop} {a : Act} {o : Oper} {w : World} (x : Operand) (ho : o.op = .load 31 x)
    (h : ∃ (g : Nat) (c : Nat → Int), a.eval x = .pointer (some ⟨g, 0, none⟩) ∧ PosAt w g c ∧ K (a.put o.dst (.agg (posC c)))) : o.quiet Tryd.prog a (fun w' => ∃ p : Regrown, w' = grow (redrawn w p.d) p.os) K := by
  obtain ⟨g, c, hx, hp, hk⟩ := h
  exact quiet_load_pos x ho c ⟨g, _, _, hx, fun w' ⟨p, e⟩ => by rw [e, heap_grow _ _ _ _ hp.lt]; exact hp.heap⟩ hk
theorem tb_grow {w : World} {d : Nat} {os : Array Obj} (h : Tb w) : Tb (grow (redrawn w d) os) := tb_below h (below_regrown w d os)

theorem on_val (c : Nat → Int) (s color : Int) (v : BitVec 64) (w : World) (hc : BdOk c) (hT : Tb w) (h : K.by c s color = v) :
    Calls Tryd.prog 12 #[.agg (posC c), .int .i64 s, .int .u8 color] w fun e w' => e = .returned (.bool (U v != 0)) ∧ Below w.heap.size w w' := by
  rw [← h]; exact on_any c s color w hc hT

theorem by_val (c : Nat → Int) (s color : Int) (v : BitVec 64) (w : World) (hc : BdOk c) (hT : Tb w) (h : K.by c s color = v) :
    Calls Tryd.prog 11 #[.agg (posC c), .int .i64 s, .int .u8 color] w fun e w' => e = .returned (.int .u64 (U v)) ∧ Below w.heap.size w w' := by
  rw [← h]; exact by_any c s color w hc hT
theorem d8by_val (c : Nat → Int) (s color : Int) (v : BitVec 64) (w : World) (hc : BdOk c) (h : D.by' c s color = v) :
    Calls Tryd.prog 10 #[.agg (posC c), .int .i64 s, .int .u8 color] w fun e w' => e = .returned (.int .u64 (U v)) ∧ Below w.heap.size w w' := by
  rw [← h]; exact d8by_any c s color w hc
theorem from_val (c : Nat → Int) (s : Int) (v : BitVec 64) (w : World) (hc : BdOk c) (hT : Tb w) (h : K.from c s = v) :
    Calls Tryd.prog 14 #[.agg (posC c), .int .i64 s] w fun e w' => e = .returned (.int .u64 (U v)) ∧ Below w.heap.size w w' := by
  rw [← h]; exact from_any c s w hc hT
theorem d8from_val (c : Nat → Int) (s : Int) (v : BitVec 64) (w : World) (hc : BdOk c) (h : D.from' c s = v) :
    Calls Tryd.prog 15 #[.agg (posC c), .int .i64 s] w fun e w' => e = .returned (.int .u64 (U v)) ∧ Below w.heap.size w w' := by
  rw [← h]; exact d8from_any c s w hc
theorem d8check_val (c : Nat → Int) (color : Int) (b : Bool) (w : World) (hc : BdOk c) (h : D.check c color = b) :
    Calls Tryd.prog 17 #[.agg (posC c), .int .u8 color] w fun e w' => e = .returned (.bool b) ∧ Below w.heap.size w w' := by
  rw [← h]; exact d8check_any c color w hc
theorem checkers_val (c : Nat → Int) (v : BitVec 64) (w : World) (hc : BdOk c) (hT : Tb w) (hv : 0 ≤ c 0) (h0 : 0 ≤ c 78) (h : K.checkers c = v) :
    Calls Tryd.prog 18 #[.agg (posC c)] w fun e w' => e = .returned (.int .u64 (U v)) ∧ Below w.heap.size w w' := by
  rw [← h]; exact checkers_any c w hc hT hv h0
theorem d8checkers_val (c : Nat → Int) (v : BitVec 64) (w : World) (hc : BdOk c) (h : D.checkers c = v) :
    Calls Tryd.prog 19 #[.agg (posC c)] w fun e w' => e = .returned (.int .u64 (U v)) ∧ Below w.heap.size w w' := by
  rw [← h]; exact d8checkers_any c w hc

set_option maxRecDepth 100000 in
set_option maxHeartbeats 1000000 in
theorem attackBy_walk (c : Nat → Int) (s color : Int) (w : World) (hc : PosOk c) (h0 : 0 ≤ color) (hT : Tb w) :
    Calls Tryd.prog 3 #[.agg (posC c), .int .i64 s, .int .u8 color] w fun e w' => e = .returned (.bool true) ∧ Below w.heap.size w w' := by
  have Hc := Lib.hid (pos_bd hc)
  have HT := Lib.hid (fun W (hb : Below w.heap.size w W) => tb_below hT hb)
  have he := by_eq c s color Hc.out h0
  clear hT hc
  have hb0 : Below w.heap.size w (w.alloc (.cells (posC c) 31)) := (Below.refl _ _).alloc (Nat.le_refl _) _
  have hp := PosAt.new w c
  by_cases h1 : color ≤ 1
  · rw [if_pos h1] at he
    obtain ⟨v, hd⟩ : ∃ v, D.by' c s color = v := ⟨_, rfl⟩
    rw [hd] at he
    have He := Lib.hid he
    have Hd := Lib.hid hd
    clear he hd
    have hq : (U v == U v) = true := by simp
    go_enter Tryd.func3, Tryd.ntmps3
    go_wp2_with (first
      | ((with_reducible refine wp_load_box_g rfl _ rfl ?_); refine ⟨_, _, rfl, (by assumption), ?_⟩)
      | ((with_reducible refine wp_load_box rfl _ rfl ?_); refine ⟨_, _, rfl, (by assumption), ?_⟩)
      | (go_at_call 10; refine (d8by_val c s color v _ Hc.out Hd.out).mono ?_; rintro e u ⟨rfl, hb⟩; replace hp := hp.below hb; replace hb0 := below_next hb0 hb; clear hb)
      | (go_at_call 11; refine (by_val c s color v _ Hc.out (HT.out _ hb0) He.out).mono ?_; rintro e u ⟨rfl, hb⟩; replace hp := hp.below hb; replace hb0 := below_next hb0 hb; clear hb)
      | (go_at_call 12; refine (on_val c s color v _ Hc.out (HT.out _ hb0) He.out).mono ?_; rintro e u ⟨rfl, hb⟩; replace hp := hp.below hb; replace hb0 := below_next hb0 hb; clear hb)
      | (go_at_call 13; refine (awake08_any _ (HT.out _ hb0)).mono ?_; rintro e u ⟨rfl, hb⟩; replace hp := hp.below hb; replace hb0 := below_next hb0 hb; clear hb))
    go_ret
    exact ⟨rfl, hb0⟩
  · rw [if_neg h1] at he
    have He := Lib.hid he
    clear he
    go_enter Tryd.func3, Tryd.ntmps3
    go_wp2_with (first
      | ((with_reducible refine wp_load_box_g rfl _ rfl ?_); refine ⟨_, _, rfl, (by assumption), ?_⟩)
      | ((with_reducible refine wp_load_box rfl _ rfl ?_); refine ⟨_, _, rfl, (by assumption), ?_⟩)
      | (go_at_call 10; refine (d8by_any c s color _ Hc.out).mono ?_; rintro e u ⟨rfl, hb⟩; replace hp := hp.below hb; replace hb0 := below_next hb0 hb; clear hb)
      | (go_at_call 11; refine (by_eq' c s color _ 0 _ Hc.out (HT.out _ hb0) He.out rfl).mono ?_; rintro e u ⟨rfl, hb⟩; replace hp := hp.below hb; replace hb0 := below_next hb0 hb; clear hb)
      | (go_at_call 12; refine (on_eq' c s color false _ Hc.out (HT.out _ hb0) (by unfold K.on; rw [He.out]; rfl)).mono ?_; rintro e u ⟨rfl, hb⟩; replace hp := hp.below hb; replace hb0 := below_next hb0 hb; clear hb)
      | (go_at_call 13; refine (awake08_any _ (HT.out _ hb0)).mono ?_; rintro e u ⟨rfl, hb⟩; replace hp := hp.below hb; replace hb0 := below_next hb0 hb; clear hb))
    go_ret
    exact ⟨rfl, hb0⟩

set_option maxRecDepth 100000 in
set_option maxHeartbeats 1000000 in
theorem attackFrom_walk (c : Nat → Int) (s : Int) (w : World) (hc : PosOk c) (hT : Tb w) :
    Calls Tryd.prog 4 #[.agg (posC c), .int .i64 s] w fun e w' => e = .returned (.bool true) ∧ Below w.heap.size w w' := by
  have Hc := Lib.hid (pos_bd hc)
  have he := from_eq c s Hc.out
  have hb0 : Below w.heap.size w (w.alloc (.cells (posC c) 31)) := (Below.refl _ _).alloc (Nat.le_refl _) _
  have HT := Lib.hid (tb_below hT hb0)
  have hp := PosAt.new w c
  clear hT hc
  obtain ⟨v, hd⟩ : ∃ v, D.from' c s = v := ⟨_, rfl⟩
  rw [hd] at he
  have He := Lib.hid he
  have Hd := Lib.hid hd
  clear he hd
  have hq : (U v == U v) = true := by simp
  go_enter Tryd.func4, Tryd.ntmps4
  go_wp2
  refine region_below (by kernel_rfl) (by kernel_rfl) ?_
  repeat (first
    | go_big_quiet_step (first
      | (go_at_call 14; exact quiet_below (from_val c s v _ Hc.out (tb_grow HT.out) He.out))
      | (go_at_call 15; exact quiet_below (d8from_val c s v _ Hc.out Hd.out))
      | (go_at_call 13; exact quiet_below (awake08_any _ (tb_grow HT.out))))
    | (go_big_quiet_want; refine quiet_load_box _ rfl ⟨_, _, rfl, hp, ?_⟩; simp only [Act.put, List.setIfInBounds_toArray, List.set_cons_succ, List.set_cons_zero]; go_big_quiet_on))
  refine wpQuiet_nil ?_
  intro w3 hb3
  replace hb0 := below_next hb0 hb3
  clear hb3 hp
  go_wp2
  go_ret
  exact ⟨rfl, hb0⟩

set_option maxRecDepth 100000 in
set_option maxHeartbeats 1000000 in
theorem attackCheck_walk (c : Nat → Int) (color : Int) (w : World) (hc : PosOk c) (h0 : 0 ≤ color) (hT : Tb w) :
    Calls Tryd.prog 5 #[.agg (posC c), .int .u8 color] w fun e w' => e = .returned (.bool true) ∧ Below w.heap.size w w' := by
  have Hc := Lib.hid (pos_bd hc)
  have hv := (pos_u8 hc (i := 0) (by omega) rfl).1
  have ht := (pos_u8 hc (i := 78) (by omega) rfl).1
  have he := check_eq c color Hc.out h0
  have he2 := checkers_eq c Hc.out ht
  have hb0 : Below w.heap.size w (w.alloc (.cells (posC c) 31)) := (Below.refl _ _).alloc (Nat.le_refl _) _
  have HT := Lib.hid (tb_below hT hb0)
  have hp := PosAt.new w c
  clear hT hc
  obtain ⟨b, hd⟩ : ∃ b, D.check c color = b := ⟨_, rfl⟩
  obtain ⟨v, hd2⟩ : ∃ v, D.checkers c = v := ⟨_, rfl⟩
  rw [hd] at he
  rw [hd2] at he2
  have He := Lib.hid he
  have He2 := Lib.hid he2
  have Hd := Lib.hid hd
  have Hd2 := Lib.hid hd2
  clear he he2 hd hd2
  have hq : (U v == U v) = true := by simp
  have hq2 : (b == b) = true := by simp
  go_enter Tryd.func5, Tryd.ntmps5
  go_wp2
  refine region_below (by kernel_rfl) (by kernel_rfl) ?_
  repeat (first
    | go_big_quiet_step (first
      | (go_at_call 16; exact quiet_below (check_eq' c color b _ Hc.out (tb_grow HT.out) hv h0 He.out))
      | (go_at_call 17; exact quiet_below (d8check_val c color b _ Hc.out Hd.out))
      | (go_at_call 18; exact quiet_below (checkers_val c v _ Hc.out (tb_grow HT.out) hv ht He2.out))
      | (go_at_call 19; exact quiet_below (d8checkers_val c v _ Hc.out Hd2.out))
      | (go_at_call 13; exact quiet_below (awake08_any _ (tb_grow HT.out))))
    | (go_big_quiet_want; refine quiet_load_box _ rfl ⟨_, _, rfl, hp, ?_⟩; simp only [Act.put, List.setIfInBounds_toArray, List.set_cons_succ, List.set_cons_zero]; go_big_quiet_on))
  refine wpQuiet_nil ?_
  intro w3 hb3
  replace hb0 := below_next hb0 hb3
  clear hb3 hp
  go_wp2
  go_ret
  exact ⟨rfl, hb0⟩

end Go.Proofs.YtdfgpbighadplaaDoor
