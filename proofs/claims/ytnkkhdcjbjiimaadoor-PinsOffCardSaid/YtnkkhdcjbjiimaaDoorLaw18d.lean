/- The laws of layer 18: PinsLines. -/
import Derived.Test.YtnkkhdcjbjiimaaDoorLaw18c
namespace Go.Proofs.YtnkkhdcjbjiimaaDoor
open Go.RowKit Go.Sort

set_option maxRecDepth 100000 in
set_option maxHeartbeats 4000000 in
theorem pinsLines_walk (c : Nat → Int) (s : Int) (w : World) (hc : PosOk c) (hT : Tb w) :
    Calls Tryd.prog 9 #[.agg (posC c), .int .i64 s] w fun e w' => e = .returned (.bool true) ∧ Below w.heap.size w w' := by
  have Hc := Lib.hid (pos_bd hc)
  have hb0 : Below w.heap.size w (w.alloc (.cells (posC c) 31)) := (Below.refl _ _).alloc (Nat.le_refl _) _
  have HT := Lib.hid (fun W (hb : Below w.heap.size w W) => tb_below hT hb)
  have hp := PosAt.new w c
  have hoe := N.on_eq c s Hc.out
  have hql : (U (N.line c s) == U (N.line c s)) = true := by simp
  obtain ⟨pn, hpn⟩ : ∃ pn, N.pinner c s = pn := ⟨_, rfl⟩
  have hqp : (pn == pn) = true := by simp
  have Hpn := Lib.hid hpn
  clear hT hc
  cases ho : N.don c s with
  | some x =>
    obtain ⟨a, b, v⟩ := x
    have hpb : pn = b := by rw [← hpn]; unfold N.pinner; rw [hoe, ho]
    have Ho := Lib.hid ho
    subst hpb
    clear ho hoe hpn
    go_enter Tryd.func9, Tryd.ntmps9
    go_wp2_with (first
      | ((with_reducible refine wp_load_box rfl _ rfl ?_); refine ⟨_, _, rfl, (by assumption), ?_⟩)
      | (go_at_call 28; refine (d18on_some c s a pn v _ Hc.out Ho.out).mono ?_; rintro e u ⟨rfl, hb2⟩; replace hp := hp.below hb2; replace hb0 := below_next hb0 hb2; clear hb2))
    have hb1 := hb0.alloc hb0.size (.cells #[.int .i64 a, .int .i64 pn, .int .u64 (U v)] 55)
    replace hp := hp.alloc (.cells #[.int .i64 a, .int .i64 pn, .int .u64 (U v)] 55)
    have HT2 := Lib.hid (HT.out _ hb1)
    refine region_below (by kernel_rfl) (by kernel_rfl) ?_
    repeat (first
      | go_big_quiet_step (first
        | (go_at_call 29; exact quiet_below (pinner_val c s pn _ Hc.out (tb_grow HT2.out) Hpn.out))
        | (go_at_call 30; exact quiet_below (pline_any c s _ Hc.out (tb_grow HT2.out)))
        | (go_at_call 31; exact quiet_below (d18line_any c s _ Hc.out))
        | (go_at_call 27; exact quiet_below (awake18_any _ (tb_grow HT2.out))))
      | (go_big_quiet_want; refine quiet_load_box _ rfl ⟨_, _, rfl, hp, ?_⟩; simp only [Act.put, List.setIfInBounds_toArray, List.set_cons_succ, List.set_cons_zero]; go_big_quiet_on))
    refine wpQuiet_nil ?_
    intro w3 hb3
    replace hb1 := below_next hb1 hb3
    clear hb3 hp hb0
    go_wp2
    go_ret
    exact ⟨rfl, hb1⟩
  | none =>
    have hpb : pn = -1 := by rw [← hpn]; unfold N.pinner; rw [hoe, ho]
    have Ho := Lib.hid ho
    subst hpb
    clear ho hoe hpn
    go_enter Tryd.func9, Tryd.ntmps9
    go_wp2_with (first
      | ((with_reducible refine wp_load_box rfl _ rfl ?_); refine ⟨_, _, rfl, (by assumption), ?_⟩)
      | (go_at_call 28; refine (d18on_none c s _ Hc.out Ho.out).mono ?_; rintro e u ⟨rfl, hb2⟩; replace hp := hp.below hb2; replace hb0 := below_next hb0 hb2; clear hb2))
    have hb1 := hb0.alloc hb0.size (.cells #[.int .i64 0, .int .i64 0, .int .u64 0] 55)
    replace hp := hp.alloc (.cells #[.int .i64 0, .int .i64 0, .int .u64 0] 55)
    have HT2 := Lib.hid (HT.out _ hb1)
    refine region_below (by kernel_rfl) (by kernel_rfl) ?_
    repeat (first
      | go_big_quiet_step (first
        | (go_at_call 29; exact quiet_below (pinner_val c s (-1) _ Hc.out (tb_grow HT2.out) Hpn.out))
        | (go_at_call 30; exact quiet_below (pline_any c s _ Hc.out (tb_grow HT2.out)))
        | (go_at_call 31; exact quiet_below (d18line_any c s _ Hc.out))
        | (go_at_call 27; exact quiet_below (awake18_any _ (tb_grow HT2.out))))
      | (go_big_quiet_want; refine quiet_load_box _ rfl ⟨_, _, rfl, hp, ?_⟩; simp only [Act.put, List.setIfInBounds_toArray, List.set_cons_succ, List.set_cons_zero]; go_big_quiet_on))
    refine wpQuiet_nil ?_
    intro w3 hb3
    replace hb1 := below_next hb1 hb3
    clear hb3 hp hb0
    go_wp2
    go_ret
    exact ⟨rfl, hb1⟩

end Go.Proofs.YtnkkhdcjbjiimaaDoor
