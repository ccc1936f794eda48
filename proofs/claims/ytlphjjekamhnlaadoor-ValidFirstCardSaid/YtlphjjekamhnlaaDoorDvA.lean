/- The document's answer of layer 12 (valid): plain, count, kings, pawns, pockets. -/
import Derived.Test.YtlphjjekamhnlaaDoorVpB
import Derived.Test.YtlphjjekamhnlaaDoorLawX
namespace Go.Proofs.YtlphjjekamhnlaaDoor
open Go.RowKit Go.Sort
attribute [local go_sem] Oper.semAt_some

set_option maxRecDepth 100000 in
set_option maxHeartbeats 4000000 in
theorem d12plain_any (c : Nat → Int) (w : World) (hc : PosOk c) :
    Calls Tryd.prog 35 #[.agg (posC c)] w fun e w' => e = .returned (.bool (Y.plain c)) ∧ Below w.heap.size w w' := by
  have hp := PosAt.new w c
  have c0 := hp.cellK 0 (by decide) .u8 rfl
  have c78 := hp.cellK 78 (by decide) .u8 rfl
  have c83 := hp.cellK 83 (by decide) .i8 rfl
  have c79 := hp.cellK 79 (by decide) .i8 rfl
  have c80 := hp.cellK 80 (by decide) .i8 rfl
  have c81 := hp.cellK 81 (by decide) .i8 rfl
  have c82 := hp.cellK 82 (by decide) .i8 rfl
  have c84 := hp.cellK 84 (by decide) .u8 rfl
  have c85 := hp.cellK 85 (by decide) .u8 rfl
  have Hc := Lib.hid (pos_bd hc)
  obtain ⟨v0, u0⟩ := pos_u8 hc (i := 0) (by decide) rfl
  obtain ⟨v78, u78⟩ := pos_u8 hc (i := 78) (by decide) rfl
  obtain ⟨v84, u84⟩ := pos_u8 hc (i := 84) (by decide) rfl
  obtain ⟨v85, u85⟩ := pos_u8 hc (i := 85) (by decide) rfl
  clear hc
  by_cases h : 8 < c 0
  · have E := Lib.hid (Y.plain_noH (c := c) (.inl (by omega)))
    have d0 : decide (8 < c 0) = true := decide_eq_true h
    clear h
    go_enter Tryd.func35, Tryd.ntmps35
    go_wp2
    go_ret
    exact ⟨ret_bool E.out.symm, (Below.refl _ _).alloc (Nat.le_refl _) _⟩
  have d0 : decide (8 < c 0) = false := decide_eq_false h
  have H0 := Lib.hid h
  clear h
  by_cases h : 1 < c 78
  · have E := Lib.hid (Y.plain_noH (c := c) (.inr (.inl h)))
    have d1 : decide (1 < c 78) = true := decide_eq_true h
    clear h
    go_enter Tryd.func35, Tryd.ntmps35
    go_wp2
    go_ret
    exact ⟨ret_bool E.out.symm, (Below.refl _ _).alloc (Nat.le_refl _) _⟩
  have d1 : decide (1 < c 78) = false := decide_eq_false h
  have H1 := Lib.hid h
  clear h
  by_cases h : c 83 < -1
  · have E := Lib.hid (Y.plain_noH (c := c) (.inr (.inr (.inl h))))
    have d2 : decide (c 83 < -1) = true := decide_eq_true h
    clear h
    go_enter Tryd.func35, Tryd.ntmps35
    go_wp2
    go_ret
    exact ⟨ret_bool E.out.symm, (Below.refl _ _).alloc (Nat.le_refl _) _⟩
  have d2 : decide (c 83 < -1) = false := decide_eq_false h
  have H2 := Lib.hid h
  clear h
  by_cases h : 63 < c 83
  · have E := Lib.hid (Y.plain_noH (c := c) (.inr (.inr (.inr (by omega)))))
    have d3 : decide (63 < c 83) = true := decide_eq_true h
    clear h
    go_enter Tryd.func35, Tryd.ntmps35
    go_wp2
    go_ret
    exact ⟨ret_bool E.out.symm, (Below.refl _ _).alloc (Nat.le_refl _) _⟩
  have d3 : decide (63 < c 83) = false := decide_eq_false h
  have H3 := Lib.hid h
  clear h
  go_enter Tryd.func35, Tryd.ntmps35
  go_wp2
  go_loop [3] (fun i => ∃ k : Nat, k ≤ 64 ∧ i = .int .i64 (k : Int) ∧ Y.BdTo c k) (fun i => 64 - (intOf i).toNat)
  case atStart => exact ⟨0, Nat.zero_le _, rfl, fun j hj => by omega⟩
  case round =>
    obtain ⟨k, hk, rfl, hB⟩ := hrel
    have HB := Lib.hid hB
    clear hB
    by_cases hlt : k < 64
    · have hcl := hp.bd hlt
      obtain ⟨x0, x1⟩ := Hc.out k hlt
      have HO := Lib.hid (Y.okL_kind _ x0 x1)
      have HNo := Lib.hid (fun h => Y.plain_noB (c := c) k hlt h)
      have HYes := Lib.hid (fun h => Y.BdTo.next (c := c) HB.out h)
      generalize c (1 + k) = x at *
      cases hz : (x != 0)
      · have ho := Lib.hid (show okL x = true by rw [HO.out, show (x == 0) = true by simpa using hz]; rfl)
        go_wp2
        go_round
        case rel => exact ⟨k + 1, by omega, by go_num, HYes.out ho.out⟩
        case measure => simp [intOf]; omega
      · cases hq : (P.kind x == 0)
        · have ho := Lib.hid (show okL x = true by rw [HO.out, show (P.kind x != 0) = true by simpa using hq, Bool.or_true])
          go_wp2_with (go_at_call 29; refine (d8kind_any _ _ x0 x1).mono ?_; rintro e w' ⟨rfl, rfl⟩)
          go_round
          case rel => exact ⟨k + 1, by omega, by go_num, HYes.out ho.out⟩
          case measure => simp [intOf]; omega
        · have ho := Lib.hid (show okL x = false by rw [HO.out, show (x == 0) = false by simpa using hz, show (P.kind x != 0) = false by simpa using hq]; rfl)
          go_wp2_with (go_at_call 29; refine (d8kind_any _ _ x0 x1).mono ?_; rintro e w' ⟨rfl, rfl⟩)
          go_ret
          exact ⟨ret_bool (HNo.out ho.out).symm, (Below.refl _ _).alloc (Nat.le_refl _) _⟩
    · obtain rfl : k = 64 := by omega
      go_wp2
      go_loop [4] (fun i => ∃ k : Nat, k ≤ 2 ∧ i = .int .i64 (k : Int) ∧ Y.SdTo c k) (fun i => 2 - (intOf i).toNat)
      case atStart => exact ⟨0, Nat.zero_le _, rfl, fun j hj => by omega⟩
      case round =>
        obtain ⟨k, hk, rfl, hS⟩ := hrel
        have HS := Lib.hid hS
        clear hS
        rcases (show k = 0 ∨ k = 1 ∨ k = 2 by omega) with rfl | rfl | rfl
        · go_wp2
          go_loop [5] (fun i => ∃ j : Nat, j ≤ 2 ∧ i = .int .i64 (j : Int) ∧ Y.RkTo c 0 j) (fun i => 2 - (intOf i).toNat)
          case atStart => exact ⟨0, Nat.zero_le _, rfl, fun j hj => by omega⟩
          case round =>
            obtain ⟨j, hj, rfl, hR⟩ := hrel
            have HR := Lib.hid hR
            clear hR
            rcases (show j = 0 ∨ j = 1 ∨ j = 2 by omega) with rfl | rfl | rfl
            · have HNo := Lib.hid (fun h => Y.plain_noR (c := c) 0 0 (by omega) (by omega) h)
              have HYes := Lib.hid (fun h => Y.RkTo.next (c := c) HR.out h)
              have HD := Lib.hid (show Y.rookOk (c (79 + 2 * 0 + 0)) = (decide (-1 ≤ c 79) && decide (c 79 ≤ 7)) from rfl)
              by_cases h1 : c 79 < -1
              · have e1 : decide (c 79 < -1) = true := decide_eq_true h1
                have E := Lib.hid (HNo.out (by rw [HD.out, decide_eq_false (show ¬ -1 ≤ c 79 by omega)]; rfl))
                clear h1
                go_wp2
                go_ret
                exact ⟨ret_bool E.out.symm, (Below.refl _ _).alloc (Nat.le_refl _) _⟩
              · have e1 : decide (c 79 < -1) = false := decide_eq_false h1
                by_cases h2 : 7 < c 79
                · have e2 : decide (7 < c 79) = true := decide_eq_true h2
                  have E := Lib.hid (HNo.out (by rw [HD.out, decide_eq_false (show ¬ c 79 ≤ 7 by omega), Bool.and_false]))
                  clear h1 h2
                  go_wp2
                  go_ret
                  exact ⟨ret_bool E.out.symm, (Below.refl _ _).alloc (Nat.le_refl _) _⟩
                · have e2 : decide (7 < c 79) = false := decide_eq_false h2
                  have E := Lib.hid (HYes.out (by rw [HD.out, decide_eq_true (show -1 ≤ c 79 by omega), decide_eq_true (show c 79 ≤ 7 by omega)]; rfl))
                  clear h1 h2
                  go_wp2
                  go_round
                  case rel => exact ⟨1, by omega, rfl, E.out⟩
                  case measure => simp [intOf]
            · have HNo := Lib.hid (fun h => Y.plain_noR (c := c) 0 1 (by omega) (by omega) h)
              have HYes := Lib.hid (fun h => Y.RkTo.next (c := c) HR.out h)
              have HD := Lib.hid (show Y.rookOk (c (79 + 2 * 0 + 1)) = (decide (-1 ≤ c 80) && decide (c 80 ≤ 7)) from rfl)
              by_cases h1 : c 80 < -1
              · have e1 : decide (c 80 < -1) = true := decide_eq_true h1
                have E := Lib.hid (HNo.out (by rw [HD.out, decide_eq_false (show ¬ -1 ≤ c 80 by omega)]; rfl))
                clear h1
                go_wp2
                go_ret
                exact ⟨ret_bool E.out.symm, (Below.refl _ _).alloc (Nat.le_refl _) _⟩
              · have e1 : decide (c 80 < -1) = false := decide_eq_false h1
                by_cases h2 : 7 < c 80
                · have e2 : decide (7 < c 80) = true := decide_eq_true h2
                  have E := Lib.hid (HNo.out (by rw [HD.out, decide_eq_false (show ¬ c 80 ≤ 7 by omega), Bool.and_false]))
                  clear h1 h2
                  go_wp2
                  go_ret
                  exact ⟨ret_bool E.out.symm, (Below.refl _ _).alloc (Nat.le_refl _) _⟩
                · have e2 : decide (7 < c 80) = false := decide_eq_false h2
                  have E := Lib.hid (HYes.out (by rw [HD.out, decide_eq_true (show -1 ≤ c 80 by omega), decide_eq_true (show c 80 ≤ 7 by omega)]; rfl))
                  clear h1 h2
                  go_wp2
                  go_round
                  case rel => exact ⟨2, by omega, rfl, E.out⟩
                  case measure => simp [intOf]
            · have HNo := Lib.hid (fun h => Y.plain_noC (c := c) 0 (by omega) h)
              have HYes := Lib.hid (fun h => Y.SdTo.next (c := c) HS.out HR.out h)
              have HD := Lib.hid (show Y.chk (c 0) (c (84 + 0)) = (decide (c 84 ≤ 3) && (c 84 == 0 || c 0 == 5)) from rfl)
              by_cases h1 : 3 < c 84
              · have e1 : decide (3 < c 84) = true := decide_eq_true h1
                have E := Lib.hid (HNo.out (by rw [HD.out, decide_eq_false (show ¬ c 84 ≤ 3 by omega)]; rfl))
                clear h1
                go_wp2
                go_ret
                exact ⟨ret_bool E.out.symm, (Below.refl _ _).alloc (Nat.le_refl _) _⟩
              · have e1 : decide (3 < c 84) = false := decide_eq_false h1
                cases h5 : (c 0 != 5)
                · have E := Lib.hid (HYes.out (by rw [HD.out, decide_eq_true (show c 84 ≤ 3 by omega), show (c 0 == 5) = true by simpa using h5, Bool.or_true]; rfl))
                  clear h1
                  go_wp2
                  go_round
                  case rel => exact ⟨1, by omega, rfl, E.out⟩
                  case measure => simp [intOf]
                · cases h2 : (c 84 != 0)
                  · have E := Lib.hid (HYes.out (by rw [HD.out, decide_eq_true (show c 84 ≤ 3 by omega), show (c 84 == 0) = true by simpa using h2]; rfl))
                    clear h1
                    go_wp2
                    go_round
                    case rel => exact ⟨1, by omega, rfl, E.out⟩
                    case measure => simp [intOf]
                  · have E := Lib.hid (HNo.out (by rw [HD.out, show (c 84 == 0) = false by simpa using h2, show (c 0 == 5) = false by simpa using h5, Bool.or_false, Bool.and_false]))
                    clear h1
                    go_wp2
                    go_ret
                    exact ⟨ret_bool E.out.symm, (Below.refl _ _).alloc (Nat.le_refl _) _⟩
        · go_wp2
          go_loop [5] (fun i => ∃ j : Nat, j ≤ 2 ∧ i = .int .i64 (j : Int) ∧ Y.RkTo c 1 j) (fun i => 2 - (intOf i).toNat)
          case atStart => exact ⟨0, Nat.zero_le _, rfl, fun j hj => by omega⟩
          case round =>
            obtain ⟨j, hj, rfl, hR⟩ := hrel
            have HR := Lib.hid hR
            clear hR
            rcases (show j = 0 ∨ j = 1 ∨ j = 2 by omega) with rfl | rfl | rfl
            · have HNo := Lib.hid (fun h => Y.plain_noR (c := c) 1 0 (by omega) (by omega) h)
              have HYes := Lib.hid (fun h => Y.RkTo.next (c := c) HR.out h)
              have HD := Lib.hid (show Y.rookOk (c (79 + 2 * 1 + 0)) = (decide (-1 ≤ c 81) && decide (c 81 ≤ 7)) from rfl)
              by_cases h1 : c 81 < -1
              · have e1 : decide (c 81 < -1) = true := decide_eq_true h1
                have E := Lib.hid (HNo.out (by rw [HD.out, decide_eq_false (show ¬ -1 ≤ c 81 by omega)]; rfl))
                clear h1
                go_wp2
                go_ret
                exact ⟨ret_bool E.out.symm, (Below.refl _ _).alloc (Nat.le_refl _) _⟩
              · have e1 : decide (c 81 < -1) = false := decide_eq_false h1
                by_cases h2 : 7 < c 81
                · have e2 : decide (7 < c 81) = true := decide_eq_true h2
                  have E := Lib.hid (HNo.out (by rw [HD.out, decide_eq_false (show ¬ c 81 ≤ 7 by omega), Bool.and_false]))
                  clear h1 h2
                  go_wp2
                  go_ret
                  exact ⟨ret_bool E.out.symm, (Below.refl _ _).alloc (Nat.le_refl _) _⟩
                · have e2 : decide (7 < c 81) = false := decide_eq_false h2
                  have E := Lib.hid (HYes.out (by rw [HD.out, decide_eq_true (show -1 ≤ c 81 by omega), decide_eq_true (show c 81 ≤ 7 by omega)]; rfl))
                  clear h1 h2
                  go_wp2
                  go_round
                  case rel => exact ⟨1, by omega, rfl, E.out⟩
                  case measure => simp [intOf]
            · have HNo := Lib.hid (fun h => Y.plain_noR (c := c) 1 1 (by omega) (by omega) h)
              have HYes := Lib.hid (fun h => Y.RkTo.next (c := c) HR.out h)
              have HD := Lib.hid (show Y.rookOk (c (79 + 2 * 1 + 1)) = (decide (-1 ≤ c 82) && decide (c 82 ≤ 7)) from rfl)
              by_cases h1 : c 82 < -1
              · have e1 : decide (c 82 < -1) = true := decide_eq_true h1
                have E := Lib.hid (HNo.out (by rw [HD.out, decide_eq_false (show ¬ -1 ≤ c 82 by omega)]; rfl))
                clear h1
                go_wp2
                go_ret
                exact ⟨ret_bool E.out.symm, (Below.refl _ _).alloc (Nat.le_refl _) _⟩
              · have e1 : decide (c 82 < -1) = false := decide_eq_false h1
                by_cases h2 : 7 < c 82
                · have e2 : decide (7 < c 82) = true := decide_eq_true h2
                  have E := Lib.hid (HNo.out (by rw [HD.out, decide_eq_false (show ¬ c 82 ≤ 7 by omega), Bool.and_false]))
                  clear h1 h2
                  go_wp2
                  go_ret
                  exact ⟨ret_bool E.out.symm, (Below.refl _ _).alloc (Nat.le_refl _) _⟩
                · have e2 : decide (7 < c 82) = false := decide_eq_false h2
                  have E := Lib.hid (HYes.out (by rw [HD.out, decide_eq_true (show -1 ≤ c 82 by omega), decide_eq_true (show c 82 ≤ 7 by omega)]; rfl))
                  clear h1 h2
                  go_wp2
                  go_round
                  case rel => exact ⟨2, by omega, rfl, E.out⟩
                  case measure => simp [intOf]
            · have HNo := Lib.hid (fun h => Y.plain_noC (c := c) 1 (by omega) h)
              have HYes := Lib.hid (fun h => Y.SdTo.next (c := c) HS.out HR.out h)
              have HD := Lib.hid (show Y.chk (c 0) (c (84 + 1)) = (decide (c 85 ≤ 3) && (c 85 == 0 || c 0 == 5)) from rfl)
              by_cases h1 : 3 < c 85
              · have e1 : decide (3 < c 85) = true := decide_eq_true h1
                have E := Lib.hid (HNo.out (by rw [HD.out, decide_eq_false (show ¬ c 85 ≤ 3 by omega)]; rfl))
                clear h1
                go_wp2
                go_ret
                exact ⟨ret_bool E.out.symm, (Below.refl _ _).alloc (Nat.le_refl _) _⟩
              · have e1 : decide (3 < c 85) = false := decide_eq_false h1
                cases h5 : (c 0 != 5)
                · have E := Lib.hid (HYes.out (by rw [HD.out, decide_eq_true (show c 85 ≤ 3 by omega), show (c 0 == 5) = true by simpa using h5, Bool.or_true]; rfl))
                  clear h1
                  go_wp2
                  go_round
                  case rel => exact ⟨2, by omega, rfl, E.out⟩
                  case measure => simp [intOf]
                · cases h2 : (c 85 != 0)
                  · have E := Lib.hid (HYes.out (by rw [HD.out, decide_eq_true (show c 85 ≤ 3 by omega), show (c 85 == 0) = true by simpa using h2]; rfl))
                    clear h1
                    go_wp2
                    go_round
                    case rel => exact ⟨2, by omega, rfl, E.out⟩
                    case measure => simp [intOf]
                  · have E := Lib.hid (HNo.out (by rw [HD.out, show (c 85 == 0) = false by simpa using h2, show (c 0 == 5) = false by simpa using h5, Bool.or_false, Bool.and_false]))
                    clear h1
                    go_wp2
                    go_ret
                    exact ⟨ret_bool E.out.symm, (Below.refl _ _).alloc (Nat.le_refl _) _⟩
        · have E := Lib.hid (Y.plain_yes (by have := H0.out; omega) (by have := H1.out; omega) (by have := H2.out; omega) (by have := H3.out; omega) HB.out HS.out)
          go_wp2
          go_ret
          exact ⟨ret_bool E.out.symm, (Below.refl _ _).alloc (Nat.le_refl _) _⟩

theorem eq_not_ne' (x n : Int) : (x == n) = !(x != n) := by unfold bne; rw [Bool.not_not]
theorem is12 (c : Nat → Int) (j : Nat) (t k : Int) (hc : BdOk c) (hj : j < 64) (ht : t = 0 ∨ t = 1) (hk : k = 1 ∨ k = 4 ∨ k = 6) : D.is c j t k = (c (1 + j) == 8 * t + k) := by
  obtain ⟨x0, x1⟩ := hc j hj
  unfold D.is
  rcases ht with rfl | rfl <;> rcases hk with rfl | rfl | rfl
  · exact all8 (fun x => (P.kind x == 1 && D.color x == 0) = (x == 8 * 0 + 1)) (by decide +kernel) _ x0 x1
  · exact all8 (fun x => (P.kind x == 4 && D.color x == 0) = (x == 8 * 0 + 4)) (by decide +kernel) _ x0 x1
  · exact all8 (fun x => (P.kind x == 6 && D.color x == 0) = (x == 8 * 0 + 6)) (by decide +kernel) _ x0 x1
  · exact all8 (fun x => (P.kind x == 1 && D.color x == 1) = (x == 8 * 1 + 1)) (by decide +kernel) _ x0 x1
  · exact all8 (fun x => (P.kind x == 4 && D.color x == 1) = (x == 8 * 1 + 4)) (by decide +kernel) _ x0 x1
  · exact all8 (fun x => (P.kind x == 6 && D.color x == 1) = (x == 8 * 1 + 6)) (by decide +kernel) _ x0 x1
set_option maxRecDepth 100000 in
set_option maxHeartbeats 1000000 in
theorem d12count_any (c : Nat → Int) (t : Int) (w : World) (hc : PosOk c) (ht : t = 0 ∨ t = 1) :
    Calls Tryd.prog 69 #[.agg (posC c), .int .u8 t, .int .u8 6] w fun e w' => e = .returned (.int .i64 (Y.cnt c t)) ∧ Below w.heap.size w w' := by
  have hp := PosAt.new w c
  have hb0 : Below w.heap.size w (w.alloc (.cells (posC c) 31)) := (Below.refl _ _).alloc (Nat.le_refl _) _
  have HIs : Hid (∀ (j : Nat) w, j < 64 → Calls Tryd.prog 73 #[.agg (posC c), .int .i64 (j : Int), .int .u8 t, .int .u8 6] w fun e w' => e = .returned (.bool (c (1 + j) == 8 * t + 6)) ∧ Below w.heap.size w w') := Lib.hid (fun j w hj => by
    rw [← is12 c j t 6 (pos_bd hc) hj ht (.inr (.inr rfl))]
    exact d8is_any c j t 6 w (pos_bd hc) hj)
  have HP := Lib.hid (And.intro hp hb0)
  clear hc ht hp hb0
  unfold Y.cnt
  generalize 8 * t + 6 = v at *
  go_enter Tryd.func69, Tryd.ntmps69
  go_wp2
  go_loopw [7, 8] (fun p i wr => ∃ k : Nat, k ≤ 64 ∧ i = .int .i64 (k : Int) ∧ p = .int .i64 (cntTo c v k : Int) ∧ PosAt wr w.heap.size c ∧ Below w.heap.size w wr) (fun _ i _ => 64 - (intOf i).toNat)
  case atStart => exact ⟨0, Nat.zero_le _, rfl, rfl, HP.out.1, HP.out.2⟩
  case round =>
    obtain ⟨k, hk, rfl, rfl, hp, hbr⟩ := hrel
    by_cases hlt : k < 64
    · have hl := cntTo_le c v k
      have HI : Hid (∀ w, Calls Tryd.prog 73 #[.agg (posC c), .int .i64 (k : Int), .int .u8 t, .int .u8 6] w fun e w' => e = .returned (.bool (c (1 + k) == v)) ∧ Below w.heap.size w w') := Lib.hid (fun w => HIs.out k w hlt)
      have HQ := Lib.hid (And.intro hp hbr)
      have HE := Lib.hid (show cntTo c v (k + 1) = if c (1 + k) == v then cntTo c v k + 1 else cntTo c v k from rfl)
      clear hp hbr
      generalize (c (1 + k) == v) = b at *
      cases b
      · have E := Lib.hid (show cntTo c v (k + 1) = cntTo c v k from HE.out)
        go_wp2_with (first
          | ((with_reducible refine wp_load_box rfl _ rfl ?_); refine ⟨_, _, rfl, HQ.out.1, ?_⟩)
          | (go_at_call 73; refine (HI.out _).mono ?_; rintro e w2 ⟨rfl, hb2⟩))
        go_roundw
        case rel => exact ⟨k + 1, by omega, by go_num, by rw [E.out], HQ.out.1.below hb2, below_next HQ.out.2 hb2⟩
        case measure => simp [intOf]; omega
      · have E := Lib.hid (show cntTo c v (k + 1) = cntTo c v k + 1 from HE.out)
        go_wp2_with (first
          | ((with_reducible refine wp_load_box rfl _ rfl ?_); refine ⟨_, _, rfl, HQ.out.1, ?_⟩)
          | (go_at_call 73; refine (HI.out _).mono ?_; rintro e w2 ⟨rfl, hb2⟩))
        go_roundw
        case rel => exact ⟨k + 1, by omega, by go_num, by rw [E.out]; go_num, HQ.out.1.below hb2, below_next HQ.out.2 hb2⟩
        case measure => simp [intOf]; omega
    · obtain rfl : k = 64 := by omega
      go_wp2
      go_ret
      exact ⟨rfl, hbr⟩

set_option maxRecDepth 100000 in
set_option maxHeartbeats 8000000 in
theorem d12kings_any (c : Nat → Int) (w : World) (hc : PosOk c) (hv : c 0 < 9) (ht : c 78 = 0 ∨ c 78 = 1) :
    Calls Tryd.prog 36 #[.agg (posC c)] w fun e w' => e = .returned (.bool (Y.kings c)) ∧ Below w.heap.size w w' := by
  have hp := PosAt.new w c
  have c0 := hp.cellK 0 (by decide) .u8 rfl
  have hb0 : Below w.heap.size w (w.alloc (.cells (posC c) 31)) := (Below.refl _ _).alloc (Nat.le_refl _) _
  have HE := Lib.hid (show Y.kings c = (c 0 == 4 || (Y.kingOk c 0 && Y.kingOk c 1)) from rfl)
  obtain ⟨n0, hn0⟩ : ∃ n, Y.cnt c 0 = n := ⟨_, rfl⟩
  have HN0 : Hid (∀ w, Calls Tryd.prog 69 #[.agg (posC c), .int .u8 0, .int .u8 6] w fun e w' => e = .returned (.int .i64 (n0 : Int)) ∧ Below w.heap.size w w') := Lib.hid (fun w => by rw [← hn0]; exact d12count_any c 0 w hc (by decide))
  have HK0 := Lib.hid (show c 0 ≠ 4 → Y.kingOk c 0 = if c 0 ≠ 7 then n0 == 1 || (n0 == 0 && (c 0 == 3 && c 78 == 0)) else n0 == 0 from fun h4 => by
    have hr : V.royal (c 0) 0 = decide (c 0 ≠ 7) := by
      unfold V.royal
      rw [decide_eq_true hv, decide_eq_true (show c 0 ≠ 4 from h4)]
      simp
    unfold Y.kingOk
    rw [hr, hn0]
    simp only [decide_eq_true_eq])
  obtain ⟨n1, hn1⟩ : ∃ n, Y.cnt c 1 = n := ⟨_, rfl⟩
  have HN1 : Hid (∀ w, Calls Tryd.prog 69 #[.agg (posC c), .int .u8 1, .int .u8 6] w fun e w' => e = .returned (.int .i64 (n1 : Int)) ∧ Below w.heap.size w w') := Lib.hid (fun w => by rw [← hn1]; exact d12count_any c 1 w hc (by decide))
  have HK1 := Lib.hid (show c 0 ≠ 4 → Y.kingOk c 1 = if True then n1 == 1 || (n1 == 0 && (c 0 == 3 && c 78 == 1)) else n1 == 0 from fun h4 => by
    have hr : V.royal (c 0) 1 = true := by
      unfold V.royal
      rw [decide_eq_true hv, decide_eq_true (show c 0 ≠ 4 from h4)]
      simp
    unfold Y.kingOk
    rw [hr, hn1]
    simp)
  have HP := Lib.hid (And.intro hp hb0)
  obtain ⟨t78, ht78⟩ : ∃ t, c 78 = t := ⟨_, rfl⟩
  have HT78 := Lib.hid ht78
  rw [ht78] at ht HK0 HK1
  clear hc hn0 hn1 hp hb0 ht78 hv
  by_cases h4 : c 0 = 4
  · have e4 : (c 0 == 4) = true := by rw [h4]; rfl
    have E := Lib.hid (show Y.kings c = true by rw [HE.out, e4]; rfl)
    clear h4 HK0 HK1
    go_enter Tryd.func36, Tryd.ntmps36
    go_wp2
    clear c0
    go_loopw [3] (fun i wr => ∃ t : Nat, t ≤ 2 ∧ i = .int .u8 (t : Int) ∧ PosAt wr w.heap.size c ∧ Below w.heap.size w wr) (fun i _ => 2 - (intOf i).toNat)
    case atStart => exact ⟨0, Nat.zero_le _, rfl, HP.out.1, HP.out.2⟩
    case round =>
      obtain ⟨t, htt, rfl, hp, hbr⟩ := hrel
      have HQ := Lib.hid (And.intro hp hbr)
      clear hp hbr
      rcases (show t = 0 ∨ t = 1 ∨ t = 2 by omega) with rfl | rfl | rfl
      · go_wp2_with (first | ((with_reducible refine wp_load_box rfl _ rfl ?_); refine ⟨_, _, rfl, HQ.out.1, ?_⟩) | (go_at_call 69; refine (HN0.out _).mono ?_; rintro e w2 ⟨rfl, hb2⟩; have hp2 := HQ.out.1.below hb2; have hbr2 := below_next HQ.out.2 hb2; have c0' := hp2.cellK 0 (by decide) .u8 rfl; have c78' := hp2.cellK 78 (by decide) .u8 rfl; rw [HT78.out] at c78'))
        go_roundw
        case rel => exact ⟨1, by omega, rfl, hp2, hbr2⟩
        case measure => simp [intOf]
      · go_wp2_with (first | ((with_reducible refine wp_load_box rfl _ rfl ?_); refine ⟨_, _, rfl, HQ.out.1, ?_⟩) | (go_at_call 69; refine (HN1.out _).mono ?_; rintro e w2 ⟨rfl, hb2⟩; have hp2 := HQ.out.1.below hb2; have hbr2 := below_next HQ.out.2 hb2; have c0' := hp2.cellK 0 (by decide) .u8 rfl; have c78' := hp2.cellK 78 (by decide) .u8 rfl; rw [HT78.out] at c78'))
        go_roundw
        case rel => exact ⟨2, by omega, rfl, hp2, hbr2⟩
        case measure => simp [intOf]
      · have hbr := HQ.out.2
        go_wp2
        go_ret
        exact ⟨ret_bool E.out.symm, hbr⟩
  · have e4 : (c 0 == 4) = false := by simpa using h4
    have HE2 := Lib.hid (show Y.kings c = (Y.kingOk c 0 && Y.kingOk c 1) by rw [HE.out, e4]; rfl)
    have HK0' := Lib.hid (HK0.out h4)
    have HK1' := Lib.hid (HK1.out h4)
    clear h4 HK0 HK1 HE
    obtain ⟨b3, h3⟩ : ∃ b, (c 0 == 3) = b := ⟨_, rfl⟩
    obtain ⟨b7, h7⟩ : ∃ b, (c 0 == 7) = b := ⟨_, rfl⟩
    rw [h3] at HK0' HK1'
    have HK0 := Lib.hid (show Y.kingOk c 0 = if b7 = false then n0 == 1 || (n0 == 0 && (b3 && t78 == 0)) else n0 == 0 by
      rw [HK0'.out]
      cases b7
      · rw [if_pos (by simpa using h7), if_pos rfl]
      · rw [if_neg (by simpa using h7), if_neg (by decide)])
    have HK1 := Lib.hid (show Y.kingOk c 1 = (n1 == 1 || (n1 == 0 && (b3 && t78 == 1))) by rw [HK1'.out, if_pos trivial])
    clear HK0' HK1'
    go_enter Tryd.func36, Tryd.ntmps36
    go_wp2
    clear c0
    go_loopw [3] (fun i wr => ∃ t : Nat, t ≤ 2 ∧ i = .int .u8 (t : Int) ∧ (1 ≤ t → Y.kingOk c 0 = true) ∧ (2 ≤ t → Y.kingOk c 1 = true) ∧ PosAt wr w.heap.size c ∧ Below w.heap.size w wr) (fun i _ => 2 - (intOf i).toNat)
    case atStart => exact ⟨0, Nat.zero_le _, rfl, (fun h => by omega), (fun h => by omega), HP.out.1, HP.out.2⟩
    case round =>
      obtain ⟨t, htt, rfl, hz1, hz2, hp, hbr⟩ := hrel
      have HZ := Lib.hid (And.intro hz1 hz2)
      have HQ := Lib.hid (And.intro hp hbr)
      clear hz1 hz2 hp hbr
      rcases (show t = 0 ∨ t = 1 ∨ t = 2 by omega) with rfl | rfl | rfl
      · cases b7
        rotate_left
        · by_cases hn : 0 < n0
          · have e1 : decide ((0 : Int) < (n0 : Int)) = true := decide_eq_true (by omega)
            have e1' : decide (0 < n0) = true := decide_eq_true hn
            have e1'' : 0 < n0 := hn
            have E := Lib.hid (show Y.kingOk c 0 = false by rw [HK0.out, if_neg (by decide)]; simp; omega)
            clear hn
            go_wp2_with (first | ((with_reducible refine wp_load_box rfl _ rfl ?_); refine ⟨_, _, rfl, HQ.out.1, ?_⟩) | (go_at_call 69; refine (HN0.out _).mono ?_; rintro e w2 ⟨rfl, hb2⟩; have hp2 := HQ.out.1.below hb2; have hbr2 := below_next HQ.out.2 hb2; have c0' := hp2.cellK 0 (by decide) .u8 rfl; have c78' := hp2.cellK 78 (by decide) .u8 rfl; rw [HT78.out] at c78'))
            (go_ret; exact ⟨ret_bool (show Y.kings c = false from (by rw [HE2.out, E.out]; rfl)).symm, hbr2⟩)
          · obtain rfl : n0 = 0 := by omega
            have E := Lib.hid (show Y.kingOk c 0 = true by rw [HK0.out]; rfl)
            clear hn
            go_wp2_with (first | ((with_reducible refine wp_load_box rfl _ rfl ?_); refine ⟨_, _, rfl, HQ.out.1, ?_⟩) | (go_at_call 69; refine (HN0.out _).mono ?_; rintro e w2 ⟨rfl, hb2⟩; have hp2 := HQ.out.1.below hb2; have hbr2 := below_next HQ.out.2 hb2; have c0' := hp2.cellK 0 (by decide) .u8 rfl; have c78' := hp2.cellK 78 (by decide) .u8 rfl; rw [HT78.out] at c78'))
            (go_roundw; (case rel => exact ⟨1, by omega, rfl, (fun _ => E.out), (fun h => by omega), hp2, hbr2⟩); (case measure => simp [intOf]))
        · by_cases hn1 : n0 = 1
          · subst hn1
            have E := Lib.hid (show Y.kingOk c 0 = true by rw [HK0.out]; rfl)
            go_wp2_with (first | ((with_reducible refine wp_load_box rfl _ rfl ?_); refine ⟨_, _, rfl, HQ.out.1, ?_⟩) | (go_at_call 69; refine (HN0.out _).mono ?_; rintro e w2 ⟨rfl, hb2⟩; have hp2 := HQ.out.1.below hb2; have hbr2 := below_next HQ.out.2 hb2; have c0' := hp2.cellK 0 (by decide) .u8 rfl; have c78' := hp2.cellK 78 (by decide) .u8 rfl; rw [HT78.out] at c78'))
            (go_roundw; (case rel => exact ⟨1, by omega, rfl, (fun _ => E.out), (fun h => by omega), hp2, hbr2⟩); (case measure => simp [intOf]))
          · have e1 : ((n0 : Int) != 1) = true := by simp; omega
            by_cases hn : n0 = 0
            · subst hn
              cases b3
              · have E := Lib.hid (show Y.kingOk c 0 = false by rw [HK0.out]; rfl)
                clear e1 hn1
                go_wp2_with (first | ((with_reducible refine wp_load_box rfl _ rfl ?_); refine ⟨_, _, rfl, HQ.out.1, ?_⟩) | (go_at_call 69; refine (HN0.out _).mono ?_; rintro e w2 ⟨rfl, hb2⟩; have hp2 := HQ.out.1.below hb2; have hbr2 := below_next HQ.out.2 hb2; have c0' := hp2.cellK 0 (by decide) .u8 rfl; have c78' := hp2.cellK 78 (by decide) .u8 rfl; rw [HT78.out] at c78'))
                (go_ret; exact ⟨ret_bool (show Y.kings c = false from (by rw [HE2.out, E.out]; rfl)).symm, hbr2⟩)
              · rcases ht with rfl | rfl
                · have E := Lib.hid (show Y.kingOk c 0 = true by rw [HK0.out]; rfl)
                  clear e1 hn1
                  go_wp2_with (first | ((with_reducible refine wp_load_box rfl _ rfl ?_); refine ⟨_, _, rfl, HQ.out.1, ?_⟩) | (go_at_call 69; refine (HN0.out _).mono ?_; rintro e w2 ⟨rfl, hb2⟩; have hp2 := HQ.out.1.below hb2; have hbr2 := below_next HQ.out.2 hb2; have c0' := hp2.cellK 0 (by decide) .u8 rfl; have c78' := hp2.cellK 78 (by decide) .u8 rfl; rw [HT78.out] at c78'))
                  (go_roundw; (case rel => exact ⟨1, by omega, rfl, (fun _ => E.out), (fun h => by omega), hp2, hbr2⟩); (case measure => simp [intOf]))
                · have E := Lib.hid (show Y.kingOk c 0 = false by rw [HK0.out]; rfl)
                  clear e1 hn1
                  go_wp2_with (first | ((with_reducible refine wp_load_box rfl _ rfl ?_); refine ⟨_, _, rfl, HQ.out.1, ?_⟩) | (go_at_call 69; refine (HN0.out _).mono ?_; rintro e w2 ⟨rfl, hb2⟩; have hp2 := HQ.out.1.below hb2; have hbr2 := below_next HQ.out.2 hb2; have c0' := hp2.cellK 0 (by decide) .u8 rfl; have c78' := hp2.cellK 78 (by decide) .u8 rfl; rw [HT78.out] at c78'))
                  (go_ret; exact ⟨ret_bool (show Y.kings c = false from (by rw [HE2.out, E.out]; rfl)).symm, hbr2⟩)
            · have e2 : ((n0 : Int) == 0) = false := by simpa using hn
              have E := Lib.hid (show Y.kingOk c 0 = false by rw [HK0.out, if_pos rfl, show (n0 == 1) = false by simpa using hn1, show (n0 == 0) = false by simpa using hn]; rfl)
              clear hn1 hn
              go_wp2_with (first | ((with_reducible refine wp_load_box rfl _ rfl ?_); refine ⟨_, _, rfl, HQ.out.1, ?_⟩) | (go_at_call 69; refine (HN0.out _).mono ?_; rintro e w2 ⟨rfl, hb2⟩; have hp2 := HQ.out.1.below hb2; have hbr2 := below_next HQ.out.2 hb2; have c0' := hp2.cellK 0 (by decide) .u8 rfl; have c78' := hp2.cellK 78 (by decide) .u8 rfl; rw [HT78.out] at c78'))
              (go_ret; exact ⟨ret_bool (show Y.kings c = false from (by rw [HE2.out, E.out]; rfl)).symm, hbr2⟩)
      · cases b7
        all_goals
          by_cases hn1 : n1 = 1
          · subst hn1
            have E := Lib.hid (show Y.kingOk c 1 = true by rw [HK1.out]; rfl)
            go_wp2_with (first | ((with_reducible refine wp_load_box rfl _ rfl ?_); refine ⟨_, _, rfl, HQ.out.1, ?_⟩) | (go_at_call 69; refine (HN1.out _).mono ?_; rintro e w2 ⟨rfl, hb2⟩; have hp2 := HQ.out.1.below hb2; have hbr2 := below_next HQ.out.2 hb2; have c0' := hp2.cellK 0 (by decide) .u8 rfl; have c78' := hp2.cellK 78 (by decide) .u8 rfl; rw [HT78.out] at c78'))
            (go_roundw; (case rel => exact ⟨2, by omega, rfl, (fun _ => HZ.out.1 (by omega)), (fun _ => E.out), hp2, hbr2⟩); (case measure => simp [intOf]))
          · have e1 : ((n1 : Int) != 1) = true := by simp; omega
            by_cases hn : n1 = 0
            · subst hn
              cases b3
              · have E := Lib.hid (show Y.kingOk c 1 = false by rw [HK1.out]; rfl)
                clear e1 hn1
                go_wp2_with (first | ((with_reducible refine wp_load_box rfl _ rfl ?_); refine ⟨_, _, rfl, HQ.out.1, ?_⟩) | (go_at_call 69; refine (HN1.out _).mono ?_; rintro e w2 ⟨rfl, hb2⟩; have hp2 := HQ.out.1.below hb2; have hbr2 := below_next HQ.out.2 hb2; have c0' := hp2.cellK 0 (by decide) .u8 rfl; have c78' := hp2.cellK 78 (by decide) .u8 rfl; rw [HT78.out] at c78'))
                (go_ret; exact ⟨ret_bool (show Y.kings c = false from (by rw [HE2.out, E.out, Bool.and_false])).symm, hbr2⟩)
              · rcases ht with rfl | rfl
                · have E := Lib.hid (show Y.kingOk c 1 = false by rw [HK1.out]; rfl)
                  clear e1 hn1
                  go_wp2_with (first | ((with_reducible refine wp_load_box rfl _ rfl ?_); refine ⟨_, _, rfl, HQ.out.1, ?_⟩) | (go_at_call 69; refine (HN1.out _).mono ?_; rintro e w2 ⟨rfl, hb2⟩; have hp2 := HQ.out.1.below hb2; have hbr2 := below_next HQ.out.2 hb2; have c0' := hp2.cellK 0 (by decide) .u8 rfl; have c78' := hp2.cellK 78 (by decide) .u8 rfl; rw [HT78.out] at c78'))
                  (go_ret; exact ⟨ret_bool (show Y.kings c = false from (by rw [HE2.out, E.out, Bool.and_false])).symm, hbr2⟩)
                · have E := Lib.hid (show Y.kingOk c 1 = true by rw [HK1.out]; rfl)
                  clear e1 hn1
                  go_wp2_with (first | ((with_reducible refine wp_load_box rfl _ rfl ?_); refine ⟨_, _, rfl, HQ.out.1, ?_⟩) | (go_at_call 69; refine (HN1.out _).mono ?_; rintro e w2 ⟨rfl, hb2⟩; have hp2 := HQ.out.1.below hb2; have hbr2 := below_next HQ.out.2 hb2; have c0' := hp2.cellK 0 (by decide) .u8 rfl; have c78' := hp2.cellK 78 (by decide) .u8 rfl; rw [HT78.out] at c78'))
                  (go_roundw; (case rel => exact ⟨2, by omega, rfl, (fun _ => HZ.out.1 (by omega)), (fun _ => E.out), hp2, hbr2⟩); (case measure => simp [intOf]))
            · have e2 : ((n1 : Int) == 0) = false := by simpa using hn
              have E := Lib.hid (show Y.kingOk c 1 = false by rw [HK1.out, show (n1 == 1) = false by simpa using hn1, show (n1 == 0) = false by simpa using hn]; rfl)
              clear hn1 hn
              go_wp2_with (first | ((with_reducible refine wp_load_box rfl _ rfl ?_); refine ⟨_, _, rfl, HQ.out.1, ?_⟩) | (go_at_call 69; refine (HN1.out _).mono ?_; rintro e w2 ⟨rfl, hb2⟩; have hp2 := HQ.out.1.below hb2; have hbr2 := below_next HQ.out.2 hb2; have c0' := hp2.cellK 0 (by decide) .u8 rfl; have c78' := hp2.cellK 78 (by decide) .u8 rfl; rw [HT78.out] at c78'))
              (go_ret; exact ⟨ret_bool (show Y.kings c = false from (by rw [HE2.out, E.out, Bool.and_false])).symm, hbr2⟩)
      · have E := Lib.hid (show Y.kings c = true by rw [HE2.out, HZ.out.1 (by omega), HZ.out.2 (by omega)]; rfl)
        have hbr := HQ.out.2
        go_wp2
        go_ret
        exact ⟨ret_bool E.out.symm, hbr⟩

set_option maxRecDepth 100000 in
set_option maxHeartbeats 2000000 in
theorem d12pawns_any (c : Nat → Int) (w : World) (hc : PosOk c) :
    Calls Tryd.prog 37 #[.agg (posC c)] w fun e w' => e = .returned (.bool (Y.pawns c)) ∧ Below w.heap.size w w' := by
  have hp := PosAt.new w c
  have Hc := Lib.hid (pos_bd hc)
  have c0 := hp.cellK 0 (by decide) .u8 rfl
  clear hc
  go_enter Tryd.func37, Tryd.ntmps37
  go_wp2
  go_loop [3] (fun i => ∃ k : Nat, k ≤ 64 ∧ i = .int .i64 (k : Int) ∧ Y.PwTo c k) (fun i => 64 - (intOf i).toNat)
  case atStart => exact ⟨0, Nat.zero_le _, rfl, (fun j hj => by omega)⟩
  case round =>
    obtain ⟨k, hk, rfl, hB⟩ := hrel
    have HB := Lib.hid hB
    clear hB
    by_cases hlt : k < 64
    · have hcl := hp.bd hlt
      obtain ⟨x0, x1⟩ := Hc.out k hlt
      have HNo := Lib.hid (fun h => Y.pawns_no (c := c) k hlt h)
      have HYes := Lib.hid (fun h => Y.PwTo.next (c := c) HB.out h)
      generalize c (1 + k) = x at *
      generalize c 0 = vv at *
      cases hq : (P.kind x != 1)
      rotate_left
      · have E := Lib.hid (show Y.pawnOk vv k x = true by unfold Y.pawnOk; rw [hq]; rfl)
        go_wp2_with (go_at_call 29; refine (d8kind_any _ _ x0 x1).mono ?_; rintro e w' ⟨rfl, rfl⟩)
        go_round
        case rel => exact ⟨k + 1, by omega, by go_num, HYes.out E.out⟩
        case measure => simp [intOf]; omega
      have HF := Lib.hid (show Y.pawnOk vv k x = (vv != 8 && (decide (k ≤ 55) && (decide (8 ≤ k) || (vv == 7 && x == 1)))) by unfold Y.pawnOk; rw [hq]; rfl)
      cases h8 : (vv == 8)
      rotate_left
      · have E := Lib.hid (show Y.pawnOk vv k x = false by rw [HF.out, show (vv != 8) = false by simpa using h8]; rfl)
        go_wp2_with (go_at_call 29; refine (d8kind_any _ _ x0 x1).mono ?_; rintro e w' ⟨rfl, rfl⟩)
        (go_ret; exact ⟨ret_bool (HNo.out E.out).symm, (Below.refl _ _).alloc (Nat.le_refl _) _⟩)
      · by_cases h55 : 55 < k
        · have hd2 : decide ((55 : Int) < (k : Int)) = true := decide_eq_true (by omega)
          have E := Lib.hid (show Y.pawnOk vv k x = false by rw [HF.out, decide_eq_false (show ¬ k ≤ 55 by omega)]; simp)
          go_wp2_with (go_at_call 29; refine (d8kind_any _ _ x0 x1).mono ?_; rintro e w' ⟨rfl, rfl⟩)
          (go_ret; exact ⟨ret_bool (HNo.out E.out).symm, (Below.refl _ _).alloc (Nat.le_refl _) _⟩)
        · have hd2 : decide ((55 : Int) < (k : Int)) = false := decide_eq_false (by omega)
          by_cases hk8 : k < 8
          · have hd : decide ((k : Int) < 8) = true := decide_eq_true (by omega)
            cases e7 : (vv != 7)
            · cases e1 : (x != 1)
              · have E := Lib.hid (show Y.pawnOk vv k x = true by rw [HF.out, show (vv != 8) = true by simpa using h8, decide_eq_true (show k ≤ 55 by omega), eq_not_ne' vv, eq_not_ne' x, e1, e7]; simp)
                go_wp2_with (go_at_call 29; refine (d8kind_any _ _ x0 x1).mono ?_; rintro e w' ⟨rfl, rfl⟩)
                (go_round; (case rel => exact ⟨k + 1, by omega, by go_num, HYes.out E.out⟩); (case measure => simp [intOf]; omega))
              · have E := Lib.hid (show Y.pawnOk vv k x = false by rw [HF.out, eq_not_ne' x, e1, decide_eq_false (show ¬ 8 ≤ k by omega)]; simp)
                go_wp2_with (go_at_call 29; refine (d8kind_any _ _ x0 x1).mono ?_; rintro e w' ⟨rfl, rfl⟩)
                (go_ret; exact ⟨ret_bool (HNo.out E.out).symm, (Below.refl _ _).alloc (Nat.le_refl _) _⟩)
            · have E := Lib.hid (show Y.pawnOk vv k x = false by rw [HF.out, eq_not_ne' vv, e7, decide_eq_false (show ¬ 8 ≤ k by omega)]; simp)
              go_wp2_with (go_at_call 29; refine (d8kind_any _ _ x0 x1).mono ?_; rintro e w' ⟨rfl, rfl⟩)
              (go_ret; exact ⟨ret_bool (HNo.out E.out).symm, (Below.refl _ _).alloc (Nat.le_refl _) _⟩)
          · have hd : decide ((k : Int) < 8) = false := decide_eq_false (by omega)
            have E := Lib.hid (show Y.pawnOk vv k x = true by rw [HF.out, show (vv != 8) = true by simpa using h8, decide_eq_true (show k ≤ 55 by omega), decide_eq_true (show 8 ≤ k by omega)]; rfl)
            go_wp2_with (go_at_call 29; refine (d8kind_any _ _ x0 x1).mono ?_; rintro e w' ⟨rfl, rfl⟩)
            (go_round; (case rel => exact ⟨k + 1, by omega, by go_num, HYes.out E.out⟩); (case measure => simp [intOf]; omega))
    · obtain rfl : k = 64 := by omega
      have E := Lib.hid (show Y.pawns c = true from (Y.pawnsTo_if c 64).2 HB.out)
      go_wp2
      go_ret
      exact ⟨ret_bool E.out.symm, (Below.refl _ _).alloc (Nat.le_refl _) _⟩

end Go.Proofs.YtlphjjekamhnlaaDoor
