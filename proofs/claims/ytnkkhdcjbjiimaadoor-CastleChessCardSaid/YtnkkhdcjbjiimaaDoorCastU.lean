/- The document's Side; its safe. -/
import Derived.Test.YtnkkhdcjbjiimaaDoorCastT
namespace Go.Proofs.YtnkkhdcjbjiimaaDoor
open Go.RowKit Go.Sort
attribute [local go_sem] Oper.semAt_some

theorem T.i8div (x : Int) (h0 : ¬ x < 0) (h1 : ¬ 63 < x) : IntKind.i8.wrap (x.tdiv 8) = x / 8 := by
  rw [Int.tdiv_eq_ediv_of_nonneg (by omega)]
  unfold IntKind.wrap; simp [IntKind.bits, IntKind.signed]; omega
theorem T.i8div_0 (x : Int) (h0 : ¬ x < 0) (h1 : ¬ 63 < x) : (IntKind.i8.wrap (x.tdiv 8) != 0) = !decide (x ≤ 7) := by
  rw [T.i8div x h0 h1, Bool.eq_iff_iff]; simp; omega
theorem T.i8div_1 (x : Int) (h0 : ¬ x < 0) (h1 : ¬ 63 < x) : (IntKind.i8.wrap (x.tdiv 8) != 7) = !decide (56 ≤ x) := by
  rw [T.i8div x h0 h1, Bool.eq_iff_iff]; simp; omega

set_option maxRecDepth 100000 in
set_option maxHeartbeats 1000000 in
theorem d14side_any (c : Nat → Int) (f g a b : Int) (ca : Bool) (w : World) (hc : PosOk c) (hf : -128 ≤ f ∧ f ≤ 127) (hg : -128 ≤ g ∧ g ≤ 127) :
    Calls Tryd.prog 22 #[.agg (posC c), .agg #[.int .i8 f, .int .i8 g, .int .u8 a, .int .u8 b, .bool ca]] w fun e w' => e = .returned (.int .i64 (T.side c f g ca)) ∧ Below w.heap.size w w' := by
  obtain ⟨v0, v1⟩ := pos_u8 hc (i := 78) (by decide) rfl
  have hb0 : Below w.heap.size w ((w.alloc (.cells (posC c) 31)).alloc (.cells #[.int .i8 f, .int .i8 g, .int .u8 a, .int .u8 b, .bool ca] 36)) := ((Below.refl _ _).alloc (Nat.le_refl _) _).alloc (by simp) _
  have hp := (PosAt.new w c).alloc (.cells #[.int .i8 f, .int .i8 g, .int .u8 a, .int .u8 b, .bool ca] 36)
  have h78 := hp.cell (i := 78) (by decide)
  rw [show pk 78 = .u8 from rfl] at h78
  by_cases hall : c 78 ≤ 1 ∧ ca = true ∧ f ≠ g
  · obtain ⟨h1, rfl, h3⟩ := hall
    have hfg : (f == g) = false := by simpa using h3
    obtain ⟨f0, f1⟩ := hf
    obtain ⟨g0, g1⟩ := hg
    have hs : T.side c f g true = if T.inHome (c 78).toNat f = true ∧ T.inHome (c 78).toNat g = true then (if f < g then 0 else 1) else -1 := by
      unfold T.side
      by_cases h : T.inHome (c 78).toNat f = true ∧ T.inHome (c 78).toNat g = true
      · rw [if_pos h, if_pos ⟨by omega, rfl, h3, h.1, h.2⟩]
      · rw [if_neg h, if_neg (fun k => h ⟨k.2.2.2.1, k.2.2.2.2⟩)]
    have hin : ∀ x : Int, T.inHome (c 78).toNat x = (decide (56 * c 78 ≤ x) && decide (x ≤ 56 * c 78 + 7)) := fun x => by
      unfold T.inHome; rw [show ((c 78).toNat : Int) = c 78 by omega]
    rw [hin, hin] at hs
    rcases (show c 78 = 0 ∨ c 78 = 1 by omega) with ht | ht
    · rw [ht] at h78 hs
      have Hn := Lib.hid (show ¬ ((56 * 0 ≤ f ∧ f ≤ 56 * 0 + 7) ∧ (56 * 0 ≤ g ∧ g ≤ 56 * 0 + 7)) → T.side c f g true = -1 from fun h => by rw [hs, if_neg]; simpa using h)
      have Hl := Lib.hid (show (56 * 0 ≤ f ∧ f ≤ 56 * 0 + 7) ∧ (56 * 0 ≤ g ∧ g ≤ 56 * 0 + 7) ∧ f < g → T.side c f g true = 0 from fun h => by rw [hs, if_pos (by simpa using ⟨h.1, h.2.1⟩), if_pos h.2.2])
      have Hg := Lib.hid (show (56 * 0 ≤ f ∧ f ≤ 56 * 0 + 7) ∧ (56 * 0 ≤ g ∧ g ≤ 56 * 0 + 7) ∧ ¬ f < g → T.side c f g true = 1 from fun h => by rw [hs, if_pos (by simpa using ⟨h.1, h.2.1⟩), if_neg h.2.2])
      clear hs hin h3
      cases b1 : decide (f < 0)
      · cases b2 : decide (63 < f)
        · have q1 : (IntKind.i8.wrap (f.tdiv 8) != 0) = !decide (f ≤ 7) := T.i8div_0 f (by simpa using b1) (by simpa using b2)
          cases b3 : decide (g < 0)
          · cases b4 : decide (63 < g)
            · have q2 : (IntKind.i8.wrap (g.tdiv 8) != 0) = !decide (g ≤ 7) := T.i8div_0 g (by simpa using b3) (by simpa using b4)
              cases b5 : decide (f ≤ 7) <;> cases b6 : decide (g ≤ 7)
              · rw [b5] at q1
                rw [b6] at q2
                go_enter Tryd.func22, Tryd.ntmps22
                go_wp2
                go_ret
                exact ⟨T.ret_int (Hn.out (by have c0 := of_decide_eq_false b1; have c1 := of_decide_eq_false b2; have c2 := of_decide_eq_false b3; have c3 := of_decide_eq_false b4; have c4 := of_decide_eq_false b5; have c5 := of_decide_eq_false b6; omega)), hb0⟩
              · rw [b5] at q1
                rw [b6] at q2
                go_enter Tryd.func22, Tryd.ntmps22
                go_wp2
                go_ret
                exact ⟨T.ret_int (Hn.out (by have c0 := of_decide_eq_false b1; have c1 := of_decide_eq_false b2; have c2 := of_decide_eq_false b3; have c3 := of_decide_eq_false b4; have c4 := of_decide_eq_false b5; have c5 := of_decide_eq_true b6; omega)), hb0⟩
              · rw [b5] at q1
                rw [b6] at q2
                go_enter Tryd.func22, Tryd.ntmps22
                go_wp2
                go_ret
                exact ⟨T.ret_int (Hn.out (by have c0 := of_decide_eq_false b1; have c1 := of_decide_eq_false b2; have c2 := of_decide_eq_false b3; have c3 := of_decide_eq_false b4; have c4 := of_decide_eq_true b5; have c5 := of_decide_eq_false b6; omega)), hb0⟩
              · rw [b5] at q1
                rw [b6] at q2
                cases b7 : decide (f < g)
                · go_enter Tryd.func22, Tryd.ntmps22
                  go_wp2
                  go_ret
                  exact ⟨T.ret_int (Hg.out (by have c0 := of_decide_eq_false b1; have c1 := of_decide_eq_false b2; have c2 := of_decide_eq_false b3; have c3 := of_decide_eq_false b4; have c4 := of_decide_eq_true b5; have c5 := of_decide_eq_true b6; have c6 := of_decide_eq_false b7; omega)), hb0⟩
                · go_enter Tryd.func22, Tryd.ntmps22
                  go_wp2
                  go_ret
                  exact ⟨T.ret_int (Hl.out (by have c0 := of_decide_eq_false b1; have c1 := of_decide_eq_false b2; have c2 := of_decide_eq_false b3; have c3 := of_decide_eq_false b4; have c4 := of_decide_eq_true b5; have c5 := of_decide_eq_true b6; have c6 := of_decide_eq_true b7; omega)), hb0⟩
            · go_enter Tryd.func22, Tryd.ntmps22
              go_wp2
              go_ret
              exact ⟨T.ret_int (Hn.out (by have c0 := of_decide_eq_false b1; have c1 := of_decide_eq_false b2; have c2 := of_decide_eq_false b3; have c3 := of_decide_eq_true b4; omega)), hb0⟩
          · go_enter Tryd.func22, Tryd.ntmps22
            go_wp2
            go_ret
            exact ⟨T.ret_int (Hn.out (by have c0 := of_decide_eq_false b1; have c1 := of_decide_eq_false b2; have c2 := of_decide_eq_true b3; omega)), hb0⟩
        · go_enter Tryd.func22, Tryd.ntmps22
          go_wp2
          go_ret
          exact ⟨T.ret_int (Hn.out (by have c0 := of_decide_eq_false b1; have c1 := of_decide_eq_true b2; omega)), hb0⟩
      · go_enter Tryd.func22, Tryd.ntmps22
        go_wp2
        go_ret
        exact ⟨T.ret_int (Hn.out (by have c0 := of_decide_eq_true b1; omega)), hb0⟩
    · rw [ht] at h78 hs
      have Hn := Lib.hid (show ¬ ((56 * 1 ≤ f ∧ f ≤ 56 * 1 + 7) ∧ (56 * 1 ≤ g ∧ g ≤ 56 * 1 + 7)) → T.side c f g true = -1 from fun h => by rw [hs, if_neg]; simpa using h)
      have Hl := Lib.hid (show (56 * 1 ≤ f ∧ f ≤ 56 * 1 + 7) ∧ (56 * 1 ≤ g ∧ g ≤ 56 * 1 + 7) ∧ f < g → T.side c f g true = 0 from fun h => by rw [hs, if_pos (by simpa using ⟨h.1, h.2.1⟩), if_pos h.2.2])
      have Hg := Lib.hid (show (56 * 1 ≤ f ∧ f ≤ 56 * 1 + 7) ∧ (56 * 1 ≤ g ∧ g ≤ 56 * 1 + 7) ∧ ¬ f < g → T.side c f g true = 1 from fun h => by rw [hs, if_pos (by simpa using ⟨h.1, h.2.1⟩), if_neg h.2.2])
      clear hs hin h3
      cases b1 : decide (f < 0)
      · cases b2 : decide (63 < f)
        · have q1 : (IntKind.i8.wrap (f.tdiv 8) != 7) = !decide (56 ≤ f) := T.i8div_1 f (by simpa using b1) (by simpa using b2)
          cases b3 : decide (g < 0)
          · cases b4 : decide (63 < g)
            · have q2 : (IntKind.i8.wrap (g.tdiv 8) != 7) = !decide (56 ≤ g) := T.i8div_1 g (by simpa using b3) (by simpa using b4)
              cases b5 : decide (56 ≤ f) <;> cases b6 : decide (56 ≤ g)
              · rw [b5] at q1
                rw [b6] at q2
                go_enter Tryd.func22, Tryd.ntmps22
                go_wp2
                go_ret
                exact ⟨T.ret_int (Hn.out (by have c0 := of_decide_eq_false b1; have c1 := of_decide_eq_false b2; have c2 := of_decide_eq_false b3; have c3 := of_decide_eq_false b4; have c4 := of_decide_eq_false b5; have c5 := of_decide_eq_false b6; omega)), hb0⟩
              · rw [b5] at q1
                rw [b6] at q2
                go_enter Tryd.func22, Tryd.ntmps22
                go_wp2
                go_ret
                exact ⟨T.ret_int (Hn.out (by have c0 := of_decide_eq_false b1; have c1 := of_decide_eq_false b2; have c2 := of_decide_eq_false b3; have c3 := of_decide_eq_false b4; have c4 := of_decide_eq_false b5; have c5 := of_decide_eq_true b6; omega)), hb0⟩
              · rw [b5] at q1
                rw [b6] at q2
                go_enter Tryd.func22, Tryd.ntmps22
                go_wp2
                go_ret
                exact ⟨T.ret_int (Hn.out (by have c0 := of_decide_eq_false b1; have c1 := of_decide_eq_false b2; have c2 := of_decide_eq_false b3; have c3 := of_decide_eq_false b4; have c4 := of_decide_eq_true b5; have c5 := of_decide_eq_false b6; omega)), hb0⟩
              · rw [b5] at q1
                rw [b6] at q2
                cases b7 : decide (f < g)
                · go_enter Tryd.func22, Tryd.ntmps22
                  go_wp2
                  go_ret
                  exact ⟨T.ret_int (Hg.out (by have c0 := of_decide_eq_false b1; have c1 := of_decide_eq_false b2; have c2 := of_decide_eq_false b3; have c3 := of_decide_eq_false b4; have c4 := of_decide_eq_true b5; have c5 := of_decide_eq_true b6; have c6 := of_decide_eq_false b7; omega)), hb0⟩
                · go_enter Tryd.func22, Tryd.ntmps22
                  go_wp2
                  go_ret
                  exact ⟨T.ret_int (Hl.out (by have c0 := of_decide_eq_false b1; have c1 := of_decide_eq_false b2; have c2 := of_decide_eq_false b3; have c3 := of_decide_eq_false b4; have c4 := of_decide_eq_true b5; have c5 := of_decide_eq_true b6; have c6 := of_decide_eq_true b7; omega)), hb0⟩
            · go_enter Tryd.func22, Tryd.ntmps22
              go_wp2
              go_ret
              exact ⟨T.ret_int (Hn.out (by have c0 := of_decide_eq_false b1; have c1 := of_decide_eq_false b2; have c2 := of_decide_eq_false b3; have c3 := of_decide_eq_true b4; omega)), hb0⟩
          · go_enter Tryd.func22, Tryd.ntmps22
            go_wp2
            go_ret
            exact ⟨T.ret_int (Hn.out (by have c0 := of_decide_eq_false b1; have c1 := of_decide_eq_false b2; have c2 := of_decide_eq_true b3; omega)), hb0⟩
        · go_enter Tryd.func22, Tryd.ntmps22
          go_wp2
          go_ret
          exact ⟨T.ret_int (Hn.out (by have c0 := of_decide_eq_false b1; have c1 := of_decide_eq_true b2; omega)), hb0⟩
      · go_enter Tryd.func22, Tryd.ntmps22
        go_wp2
        go_ret
        exact ⟨T.ret_int (Hn.out (by have c0 := of_decide_eq_true b1; omega)), hb0⟩
  · have Hs := Lib.hid (T.side_out hall)
    clear h78
    have h78 := hp.cell (i := 78) (by decide)
    rw [show pk 78 = .u8 from rfl] at h78
    generalize c 78 = n at *
    cases e1 : decide (1 < n)
    · have h1 : n ≤ 1 := by simpa using e1
      cases ca
      · clear hall
        go_enter Tryd.func22, Tryd.ntmps22
        go_wp2
        go_ret
        exact ⟨T.ret_int Hs.out, hb0⟩
      · obtain rfl : f = g := by
          have := Decidable.em (f = g)
          rcases this with h | h
          · exact h
          · exact absurd ⟨h1, rfl, h⟩ hall
        clear hall
        go_enter Tryd.func22, Tryd.ntmps22
        go_wp2
        go_ret
        exact ⟨T.ret_int Hs.out, hb0⟩
    · clear hall
      go_enter Tryd.func22, Tryd.ntmps22
      go_wp2
      go_ret
      exact ⟨T.ret_int Hs.out, hb0⟩

end Go.Proofs.YtnkkhdcjbjiimaaDoor
