/- The program's package pins: Pinner, Line. -/
import Derived.Test.YtnkkhdcjbjiimaaDoorPinsOn
namespace Go.Proofs.YtnkkhdcjbjiimaaDoor
open Go.RowKit Go.Sort

theorem pon_some (c : Nat → Int) (s : Int) (a b : Int) (v : BitVec 64) (w : World) (hc : BdOk c) (hT : Tb w) (h : N.on c s = some (a, b, v)) :
    Calls Tryd.prog 50 #[.agg (posC c), .int .i64 s] w fun e w' => e = .returned (.tuple #[.agg #[.int .i64 a, .int .i64 b, .int .u64 (U v)], .bool true]) ∧ Below w.heap.size w w' := by
  have := pon_any c s w hc hT
  rw [h] at this
  exact this
theorem pon_none (c : Nat → Int) (s : Int) (w : World) (hc : BdOk c) (hT : Tb w) (h : N.on c s = none) :
    Calls Tryd.prog 50 #[.agg (posC c), .int .i64 s] w fun e w' => e = .returned (.tuple #[.agg #[.int .i64 0, .int .i64 0, .int .u64 0], .bool false]) ∧ Below w.heap.size w w' := by
  have := pon_any c s w hc hT
  rw [h] at this
  exact this

namespace N
def pinner (c : Nat → Int) (s : Int) : Int := match on c s with | some x => x.2.1 | none => -1
def ones : BitVec 64 := 18446744073709551615#64
def line (c : Nat → Int) (s : Int) : BitVec 64 := match on c s with | some x => x.2.2 | none => if (K.there s && bit (S.all c) s.toNat) = true then ones else 0#64
end N

set_option maxRecDepth 100000 in
set_option maxHeartbeats 4000000 in
theorem pinner_any (c : Nat → Int) (s : Int) (w : World) (hc : BdOk c) (hT : Tb w) :
    Calls Tryd.prog 29 #[.agg (posC c), .int .i64 s] w fun e w' => e = .returned (.int .i64 (N.pinner c s)) ∧ Below w.heap.size w w' := by
  have Hc := Lib.hid hc
  have hb0 : Below w.heap.size w (w.alloc (.cells (posC c) 31)) := (Below.refl _ _).alloc (Nat.le_refl _) _
  have HT := Lib.hid (tb_below hT hb0)
  have hp := PosAt.new w c
  clear hT hc
  cases ho : N.on c s with
  | none =>
    have e := Lib.hid (show N.pinner c s = -1 by unfold N.pinner; rw [ho])
    have Ho := Lib.hid ho
    clear ho
    go_enter Tryd.func29, Tryd.ntmps29
    go_wp2_with (first
      | ((with_reducible refine wp_load_box rfl _ rfl ?_); refine ⟨_, _, rfl, (by assumption), ?_⟩)
      | (go_at_call 50; refine (pon_none c s _ Hc.out HT.out Ho.out).mono ?_; rintro e u ⟨rfl, hb⟩; replace hb0 := below_next hb0 hb; clear hb))
    go_ret
    exact ⟨ret_int e.out.symm, hb0.alloc hb0.size _⟩
  | some x =>
    obtain ⟨a, b, v⟩ := x
    have e := Lib.hid (show N.pinner c s = b by unfold N.pinner; rw [ho])
    have Ho := Lib.hid ho
    clear ho
    go_enter Tryd.func29, Tryd.ntmps29
    go_wp2_with (first
      | ((with_reducible refine wp_load_box rfl _ rfl ?_); refine ⟨_, _, rfl, (by assumption), ?_⟩)
      | (go_at_call 50; refine (pon_some c s a b v _ Hc.out HT.out Ho.out).mono ?_; rintro e u ⟨rfl, hb⟩; replace hb0 := below_next hb0 hb; clear hb))
    go_ret
    exact ⟨ret_int e.out.symm, hb0.alloc hb0.size _⟩

set_option maxRecDepth 100000 in
set_option maxHeartbeats 4000000 in
theorem pline_any (c : Nat → Int) (s : Int) (w : World) (hc : BdOk c) (hT : Tb w) :
    Calls Tryd.prog 30 #[.agg (posC c), .int .i64 s] w fun e w' => e = .returned (.int .u64 (U (N.line c s))) ∧ Below w.heap.size w w' := by
  have Hc := Lib.hid hc
  have hb0 : Below w.heap.size w (w.alloc (.cells (posC c) 31)) := (Below.refl _ _).alloc (Nat.le_refl _) _
  have HT := Lib.hid (tb_below hT hb0)
  have hp := PosAt.new w c
  clear hT hc
  cases ho : N.on c s with
  | some x =>
    obtain ⟨a, b, v⟩ := x
    have e := Lib.hid (show N.line c s = v by unfold N.line; rw [ho])
    have Ho := Lib.hid ho
    clear ho
    go_enter Tryd.func30, Tryd.ntmps30
    go_wp2_with (first
      | ((with_reducible refine wp_load_box rfl _ rfl ?_); refine ⟨_, _, rfl, (by assumption), ?_⟩)
      | (go_at_call 50; refine (pon_some c s a b v _ Hc.out HT.out Ho.out).mono ?_; rintro e u ⟨rfl, hb⟩; replace hb0 := below_next hb0 hb; clear hb))
    go_ret
    exact ⟨ret_int (by rw [e.out]), hb0.alloc hb0.size _⟩
  | none =>
    have hl : N.line c s = if (K.there s && bit (S.all c) s.toNat) = true then N.ones else 0#64 := by unfold N.line; rw [ho]
    have Ho := Lib.hid ho
    clear ho
    cases ht : K.there s
    · have e := Lib.hid (show N.line c s = 0#64 by rw [hl, ht]; rfl)
      have hs := there_out s ht
      clear hl ht
      rcases hs with hs | hs
      all_goals
        go_enter Tryd.func30, Tryd.ntmps30
        go_wp2_with (first
          | ((with_reducible refine wp_load_box rfl _ rfl ?_); refine ⟨_, _, rfl, (by assumption), ?_⟩)
          | (go_at_call 50; refine (pon_none c s _ Hc.out HT.out Ho.out).mono ?_; rintro e u ⟨rfl, hb⟩; replace hb0 := below_next hb0 hb; clear hb))
        go_ret
        exact ⟨ret_int (by rw [e.out]; rfl), hb0.alloc hb0.size _⟩
    · obtain ⟨n, rfl, hn, hm⟩ := there_nat s ht
      rw [Int.toNat_natCast, ht, Bool.true_and] at hl
      have hdiv : U (S.all c) / 2 ^ n = U (bShr (S.all c) n) := by have := bv_shr_nat (S.all c) n; rwa [Nat.min_eq_left (by omega)] at this
      have hsh : bit (bShr (S.all c) n) 0 = bit (S.all c) n := by rw [bit_shr, Nat.add_zero]
      have hd1 : decide ((n : Int) < 0) = false := by simp
      have hd2 : decide (64 ≤ (n : Int)) = false := by simp; omega
      clear hm ht
      cases hb : bit (S.all c) n
      · have e := Lib.hid (show N.line c n = 0#64 by rw [hl, hb]; rfl)
        have hq : (bv1 (bit (bShr (S.all c) n) 0) == 0) = true := by rw [hsh, hb]; rfl
        clear hl hsh hb
        go_enter Tryd.func30, Tryd.ntmps30
        go_wp2_with (first
          | ((with_reducible refine wp_load_box_g rfl _ rfl ?_); refine ⟨_, _, rfl, (by first | assumption | exact hp.alloc _), ?_⟩)
          | ((with_reducible refine wp_load_box rfl _ rfl ?_); refine ⟨_, _, rfl, (by assumption), ?_⟩)
          | (go_at_call 50; refine (pon_none c n _ Hc.out HT.out Ho.out).mono ?_; rintro e u ⟨rfl, hb⟩; replace hp := hp.below hb; replace hb0 := below_next hb0 hb; clear hb)
          | (go_at_call 51; refine (all_any c _ Hc.out).mono ?_; rintro e u2 ⟨rfl, hb2⟩; replace hb0 := below_next (hb0.alloc hb0.size _) hb2; clear hb2))
        go_ret
        exact ⟨ret_int (by rw [e.out]; rfl), hb0⟩
      · have e := Lib.hid (show N.line c n = N.ones by rw [hl, hb]; rfl)
        have hq : (bv1 (bit (bShr (S.all c) n) 0) == 0) = false := by rw [hsh, hb]; rfl
        clear hl hsh hb
        go_enter Tryd.func30, Tryd.ntmps30
        go_wp2_with (first
          | ((with_reducible refine wp_load_box_g rfl _ rfl ?_); refine ⟨_, _, rfl, (by first | assumption | exact hp.alloc _), ?_⟩)
          | ((with_reducible refine wp_load_box rfl _ rfl ?_); refine ⟨_, _, rfl, (by assumption), ?_⟩)
          | (go_at_call 50; refine (pon_none c n _ Hc.out HT.out Ho.out).mono ?_; rintro e u ⟨rfl, hb⟩; replace hp := hp.below hb; replace hb0 := below_next hb0 hb; clear hb)
          | (go_at_call 51; refine (all_any c _ Hc.out).mono ?_; rintro e u2 ⟨rfl, hb2⟩; replace hb0 := below_next (hb0.alloc hb0.size _) hb2; clear hb2))
        go_ret
        exact ⟨ret_int (by rw [e.out]; rfl), hb0⟩

end Go.Proofs.YtnkkhdcjbjiimaaDoor
