/- The document's answer of layer 18: Line; the law PinsLines. -/
import Derived.Test.YtnkkhdcjbjiimaaDoorLaw18b
namespace Go.Proofs.YtnkkhdcjbjiimaaDoor
open Go.RowKit Go.Sort

theorem d18on_some (c : Nat → Int) (s : Int) (a b : Int) (v : BitVec 64) (w : World) (hc : BdOk c) (h : N.don c s = some (a, b, v)) :
    Calls Tryd.prog 28 #[.agg (posC c), .int .i64 s] w fun e w' => e = .returned (.tuple #[.agg #[.int .i64 a, .int .i64 b, .int .u64 (U v)], .bool true]) ∧ Below w.heap.size w w' := by
  have := d18on_any c s w hc
  rw [h] at this
  exact this
theorem d18on_none (c : Nat → Int) (s : Int) (w : World) (hc : BdOk c) (h : N.don c s = none) :
    Calls Tryd.prog 28 #[.agg (posC c), .int .i64 s] w fun e w' => e = .returned (.tuple #[.agg #[.int .i64 0, .int .i64 0, .int .u64 0], .bool false]) ∧ Below w.heap.size w w' := by
  have := d18on_any c s w hc
  rw [h] at this
  exact this

set_option maxRecDepth 100000 in
set_option maxHeartbeats 4000000 in
theorem d18line_any (c : Nat → Int) (s : Int) (w : World) (hc : BdOk c) :
    Calls Tryd.prog 31 #[.agg (posC c), .int .i64 s] w fun e w' => e = .returned (.int .u64 (U (N.line c s))) ∧ Below w.heap.size w w' := by
  have Hc := Lib.hid hc
  have hb0 : Below w.heap.size w (w.alloc (.cells (posC c) 31)) := (Below.refl _ _).alloc (Nat.le_refl _) _
  have hp := PosAt.new w c
  have hoe := N.on_eq c s hc
  clear hc
  cases ho : N.don c s with
  | some x =>
    obtain ⟨a, b, v⟩ := x
    have e := Lib.hid (show N.line c s = v by unfold N.line; rw [hoe, ho])
    have Ho := Lib.hid ho
    clear ho hoe
    go_enter Tryd.func31, Tryd.ntmps31
    go_wp2_with (first
      | ((with_reducible refine wp_load_box rfl _ rfl ?_); refine ⟨_, _, rfl, (by assumption), ?_⟩)
      | (go_at_call 28; refine (d18on_some c s a b v _ Hc.out Ho.out).mono ?_; rintro e u ⟨rfl, hb⟩; replace hb0 := below_next hb0 hb; clear hb))
    go_ret
    exact ⟨ret_int (by rw [e.out]), hb0.alloc hb0.size _⟩
  | none =>
    have hl : N.line c s = if (K.there s && bit (S.all c) s.toNat) = true then N.ones else 0#64 := by unfold N.line; rw [hoe, ho]
    have Ho := Lib.hid ho
    clear ho hoe
    cases ht : K.there s
    · have e := Lib.hid (show N.line c s = 0#64 by rw [hl, ht]; rfl)
      have hs := there_out s ht
      clear hl ht
      rcases hs with hs | hs
      all_goals
        go_enter Tryd.func31, Tryd.ntmps31
        go_wp2_with (first
          | ((with_reducible refine wp_load_box rfl _ rfl ?_); refine ⟨_, _, rfl, (by assumption), ?_⟩)
          | (go_at_call 28; refine (d18on_none c s _ Hc.out Ho.out).mono ?_; rintro e u ⟨rfl, hb⟩; replace hb0 := below_next hb0 hb; clear hb))
        go_ret
        exact ⟨ret_int (by rw [e.out]; rfl), hb0.alloc hb0.size _⟩
    · obtain ⟨n, rfl, hn, hm⟩ := there_nat s ht
      obtain ⟨x0, x1⟩ := Hc.out n hn
      rw [Int.toNat_natCast, ht, Bool.true_and, bit_all c n hn, ← isB_kind _ x0 x1] at hl
      have hd1 : decide ((n : Int) < 0) = false := by simp
      have hd2 : decide (63 < (n : Int)) = false := by simp; omega
      clear hm ht
      cases hb : (P.kind (c (1 + n)) == 0)
      · have e := Lib.hid (show N.line c n = N.ones by rw [hl, bne, hb]; rfl)
        clear hl
        go_enter Tryd.func31, Tryd.ntmps31
        go_wp2_with (first
          | ((with_reducible refine wp_load_box rfl _ rfl ?_); refine ⟨_, _, rfl, (by assumption), ?_⟩)
          | (go_at_call 28; refine (d18on_none c n _ Hc.out Ho.out).mono ?_; rintro e u ⟨rfl, hb2⟩; replace hp := hp.below hb2; replace hb0 := below_next hb0 hb2; clear hb2; have hlt2 := hp.lt; have hcl := (hp.alloc (.cells #[.int .i64 0, .int .i64 0, .int .u64 0] 55)).bd hn)
          | (go_at_call 52; refine (d8kind_any _ _ x0 x1).mono ?_; rintro e w' ⟨rfl, rfl⟩))
        go_ret
        exact ⟨ret_int (by rw [e.out]; rfl), hb0.alloc hb0.size _⟩
      · have e := Lib.hid (show N.line c n = 0#64 by rw [hl, bne, hb]; rfl)
        clear hl
        go_enter Tryd.func31, Tryd.ntmps31
        go_wp2_with (first
          | ((with_reducible refine wp_load_box rfl _ rfl ?_); refine ⟨_, _, rfl, (by assumption), ?_⟩)
          | (go_at_call 28; refine (d18on_none c n _ Hc.out Ho.out).mono ?_; rintro e u ⟨rfl, hb2⟩; replace hp := hp.below hb2; replace hb0 := below_next hb0 hb2; clear hb2; have hlt2 := hp.lt; have hcl := (hp.alloc (.cells #[.int .i64 0, .int .i64 0, .int .u64 0] 55)).bd hn)
          | (go_at_call 52; refine (d8kind_any _ _ x0 x1).mono ?_; rintro e w' ⟨rfl, rfl⟩))
        go_ret
        exact ⟨ret_int (by rw [e.out]; rfl), hb0.alloc hb0.size _⟩

end Go.Proofs.YtnkkhdcjbjiimaaDoor
