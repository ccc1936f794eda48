/- The program's package valid: plain, clocks, count, kings, pawns. -/
import Derived.Test.YtlphjjekamhnlaaDoorVal
import Derived.Test.YtlphjjekamhnlaaDoorAsk
namespace Go.Proofs.YtlphjjekamhnlaaDoor
open Go.RowKit Go.Sort
attribute [local go_sem] Oper.semAt_some

theorem Tryd.info_Ask : (Tryd.prog.info? 70).map (·.size) = some 88 := by kernel_rfl
namespace Y
theorem plain_noH {c : Nat → Int} (h : 9 ≤ c 0 ∨ 1 < c 78 ∨ c 83 < -1 ∨ 64 ≤ c 83) : plain c = false := by
  rw [Bool.eq_false_iff]
  intro e
  have := head_bd e
  omega
def BdTo (c : Nat → Int) (k : Nat) : Prop := ∀ j, j < k → okL (c (1 + j)) = true
theorem BdTo.next {c : Nat → Int} {k : Nat} (h : BdTo c k) (e : okL (c (1 + k)) = true) : BdTo c (k + 1) := fun j hj => by
  rcases Nat.lt_succ_iff_lt_or_eq.1 hj with h1 | rfl
  · exact h j h1
  · exact e
theorem plain_noB {c : Nat → Int} (k : Nat) (hk : k < 64) (h : okL (c (1 + k)) = false) : plain c = false := by
  rw [Bool.eq_false_iff]
  intro e
  have := (lawB_iff c).1 (plain_split e).2.1 k hk
  rw [h] at this
  cases this
theorem plain_noR {c : Nat → Int} (t k : Nat) (ht : t < 2) (hk : k < 2) (h : rookOk (c (79 + 2 * t + k)) = false) : plain c = false := by
  rw [Bool.eq_false_iff]
  intro e
  obtain ⟨a, b⟩ := side_rook e t k ht hk
  unfold rookOk at h
  rw [decide_eq_true a, decide_eq_true b] at h
  cases h
theorem plain_noC {c : Nat → Int} (t : Nat) (ht : t < 2) (h : chk (c 0) (c (84 + t)) = false) : plain c = false := by
  rw [Bool.eq_false_iff]
  intro e
  obtain ⟨_, _, h0, h1⟩ := plain_split e
  unfold side at h0 h1
  simp only [Bool.and_eq_true] at h0 h1
  rcases (show t = 0 ∨ t = 1 by omega) with rfl | rfl
  · rw [h0.2.2] at h; cases h
  · rw [h1.2.2] at h; cases h
def RkTo (c : Nat → Int) (t k : Nat) : Prop := ∀ j, j < k → rookOk (c (79 + 2 * t + j)) = true
theorem RkTo.next {c : Nat → Int} {t k : Nat} (h : RkTo c t k) (e : rookOk (c (79 + 2 * t + k)) = true) : RkTo c t (k + 1) := fun j hj => by
  rcases Nat.lt_succ_iff_lt_or_eq.1 hj with h1 | rfl
  · exact h j h1
  · exact e
def SdTo (c : Nat → Int) (k : Nat) : Prop := ∀ j, j < k → side c j = true
theorem SdTo.next {c : Nat → Int} {t : Nat} (h : SdTo c t) (r : RkTo c t 2) (e : chk (c 0) (c (84 + t)) = true) : SdTo c (t + 1) := fun j hj => by
  rcases Nat.lt_succ_iff_lt_or_eq.1 hj with h1 | rfl
  · exact h j h1
  · have r0 := r 0 (by omega)
    have r1 := r 1 (by omega)
    unfold side
    rw [show 80 + 2 * j = 79 + 2 * j + 1 by omega, r1, show 79 + 2 * j = 79 + 2 * j + 0 by omega, r0, e]
    rfl
theorem plain_yes {c : Nat → Int} (h0 : c 0 < 9) (h1 : c 78 ≤ 1) (h2 : -1 ≤ c 83) (h3 : c 83 < 64) (hb : BdTo c 64) (hs : SdTo c 2) : plain c = true := by
  unfold plain head
  rw [decide_eq_true h0, decide_eq_true h1, decide_eq_true h2, decide_eq_true h3, (lawB_iff c).2 hb, hs 0 (by omega), hs 1 (by omega)]
  rfl
theorem okL_kind (x : Int) (h0 : 0 ≤ x) (h1 : x ≤ 255) : okL x = (x == 0 || P.kind x != 0) := by
  unfold okL
  rw [isB_kind x h0 h1]
end Y
theorem i8_cell {v : Int} (h : -128 ≤ v ∧ v ≤ 127) : IntKind.i8.wrap v = v := by unfold IntKind.wrap; simp [IntKind.bits, IntKind.signed]; omega

set_option maxRecDepth 100000 in
set_option maxHeartbeats 4000000 in
theorem vplain_any (c : Nat → Int) (w : World) (hc : PosOk c) :
    Calls Tryd.prog 42 #[.agg (posC c)] w fun e w' => e = .returned (.bool (Y.plain c)) ∧ Below w.heap.size w w' := by
  have hp := PosIn.new w 70 c
  have c0 := hp.cell 0 (by decide) .u8 rfl
  have c78 := hp.cell 78 (by decide) .u8 rfl
  have c83 := hp.cell 83 (by decide) .i8 rfl
  have c79 := hp.cell 79 (by decide) .i8 rfl
  have c80 := hp.cell 80 (by decide) .i8 rfl
  have c81 := hp.cell 81 (by decide) .i8 rfl
  have c82 := hp.cell 82 (by decide) .i8 rfl
  have c84 := hp.cell 84 (by decide) .u8 rfl
  have c85 := hp.cell 85 (by decide) .u8 rfl
  have Hc := Lib.hid (pos_bd hc)
  obtain ⟨v0, u0⟩ := pos_u8 hc (i := 0) (by decide) rfl
  obtain ⟨v78, u78⟩ := pos_u8 hc (i := 78) (by decide) rfl
  obtain ⟨v84, u84⟩ := pos_u8 hc (i := 84) (by decide) rfl
  obtain ⟨v85, u85⟩ := pos_u8 hc (i := 85) (by decide) rfl
  have hbd : ∀ q : Nat → Prop, True := fun _ => trivial
  clear hbd hc
  by_cases h : 9 ≤ c 0
  · have E := Lib.hid (Y.plain_noH (.inl h))
    have d0 : decide (9 ≤ c 0) = true := decide_eq_true h
    clear h
    go_enter Tryd.func42, Tryd.ntmps42
    go_wp2
    go_ret
    exact ⟨ret_bool E.out.symm, (Below.refl _ _).alloc (Nat.le_refl _) _⟩
  have d0 : decide (9 ≤ c 0) = false := decide_eq_false h
  have H0 := Lib.hid h
  clear h
  by_cases h : 1 < c 78
  · have E := Lib.hid (Y.plain_noH (.inr (.inl h)))
    have d1 : decide (1 < c 78) = true := decide_eq_true h
    clear h
    go_enter Tryd.func42, Tryd.ntmps42
    go_wp2
    go_ret
    exact ⟨ret_bool E.out.symm, (Below.refl _ _).alloc (Nat.le_refl _) _⟩
  have d1 : decide (1 < c 78) = false := decide_eq_false h
  have H1 := Lib.hid h
  clear h
  by_cases h : c 83 < -1
  · have E := Lib.hid (Y.plain_noH (.inr (.inr (.inl h))))
    have d2 : decide (c 83 < -1) = true := decide_eq_true h
    clear h
    go_enter Tryd.func42, Tryd.ntmps42
    go_wp2
    go_ret
    exact ⟨ret_bool E.out.symm, (Below.refl _ _).alloc (Nat.le_refl _) _⟩
  have d2 : decide (c 83 < -1) = false := decide_eq_false h
  have H2 := Lib.hid h
  clear h
  by_cases h : 64 ≤ c 83
  · have E := Lib.hid (Y.plain_noH (.inr (.inr (.inr h))))
    have d3 : decide (64 ≤ c 83) = true := decide_eq_true h
    clear h
    go_enter Tryd.func42, Tryd.ntmps42
    go_wp2
    go_ret
    exact ⟨ret_bool E.out.symm, (Below.refl _ _).alloc (Nat.le_refl _) _⟩
  have d3 : decide (64 ≤ c 83) = false := decide_eq_false h
  have H3 := Lib.hid h
  clear h
  go_enter Tryd.func42, Tryd.ntmps42
  go_wp2_with ((with_reducible refine wp_load_bd rfl _ rfl c ?_ ?_); · (exact ⟨_, _, _, rfl, hp.heap⟩))
  go_loop [34] (fun i => ∃ k : Nat, k ≤ 64 ∧ i = .int .i64 (k : Int) ∧ Y.BdTo c k) (fun i => 64 - (intOf i).toNat)
  case atStart => exact ⟨0, Nat.zero_le _, rfl, fun j hj => by omega⟩
  case round =>
    obtain ⟨k, hk, rfl, hB⟩ := hrel
    have HB := Lib.hid hB
    clear hB
    by_cases hlt : k < 64
    · have hi := bd_index c k hlt
      obtain ⟨x0, x1⟩ := Hc.out k hlt
      have HO := Lib.hid (Y.okL_kind _ x0 x1)
      have HNo := Lib.hid (fun h => Y.plain_noB (c := c) k hlt h)
      have HYes := Lib.hid (fun h => Y.BdTo.next (c := c) HB.out h)
      generalize c (1 + k) = x at *
      cases hz : (x != 0)
      · have ho := Lib.hid (show okL x = true by rw [HO.out, show (x == 0) = true by simpa using hz]; rfl)
        go_wp2
        go_round
        case rel => exact ⟨k + 1, by omega, by go_num, HYes.out ho.out⟩
        case measure => simp [intOf]; omega
      · cases hq : (P.kind x == 0)
        · have ho := Lib.hid (show okL x = true by rw [HO.out, show (P.kind x != 0) = true by simpa using hq, Bool.or_true])
          go_wp2_with (go_at_call 61; refine (kind_any _ _ x0 x1).mono ?_; rintro e w' ⟨rfl, rfl⟩)
          go_round
          case rel => exact ⟨k + 1, by omega, by go_num, HYes.out ho.out⟩
          case measure => simp [intOf]; omega
        · have ho := Lib.hid (show okL x = false by rw [HO.out, show (x == 0) = false by simpa using hz, show (P.kind x != 0) = false by simpa using hq]; rfl)
          go_wp2_with (go_at_call 61; refine (kind_any _ _ x0 x1).mono ?_; rintro e w' ⟨rfl, rfl⟩)
          go_ret
          exact ⟨ret_bool (HNo.out ho.out).symm, (Below.refl _ _).alloc (Nat.le_refl _) _⟩
    · obtain rfl : k = 64 := by omega
      go_wp2
      go_loop [45] (fun i => ∃ k : Nat, k ≤ 2 ∧ i = .int .i64 (k : Int) ∧ Y.SdTo c k) (fun i => 2 - (intOf i).toNat)
      case atStart => exact ⟨0, Nat.zero_le _, rfl, fun j hj => by omega⟩
      case round =>
        obtain ⟨k, hk, rfl, hS⟩ := hrel
        have HS := Lib.hid hS
        clear hS
        rcases (show k = 0 ∨ k = 1 ∨ k = 2 by omega) with rfl | rfl | rfl
        · go_wp2
          go_loop [53] (fun i => ∃ j : Nat, j ≤ 2 ∧ i = .int .i64 (j : Int) ∧ Y.RkTo c 0 j) (fun i => 2 - (intOf i).toNat)
          case atStart => exact ⟨0, Nat.zero_le _, rfl, fun j hj => by omega⟩
          case round =>
            obtain ⟨j, hj, rfl, hR⟩ := hrel
            have HR := Lib.hid hR
            clear hR
            rcases (show j = 0 ∨ j = 1 ∨ j = 2 by omega) with rfl | rfl | rfl
            · have hix : ∀ w, (Instr.index 27 (.agg #[.int .i8 (c 79), .int .i8 (c 80)]) (.int .i64 0)).run Tryd.prog w = .ok (.int .i8 (c 79)) w := fun _ => by kernel_rfl
              have HNo := Lib.hid (fun h => Y.plain_noR (c := c) 0 0 (by omega) (by omega) h)
              have HYes := Lib.hid (fun h => Y.RkTo.next (c := c) HR.out h)
              have HD := Lib.hid (show Y.rookOk (c (79 + 2 * 0 + 0)) = (decide (-1 ≤ c 79) && decide (c 79 ≤ 7)) from rfl)
              by_cases h1 : c 79 < -1
              · have e1 : decide (c 79 < -1) = true := decide_eq_true h1
                have E := Lib.hid (HNo.out (by rw [HD.out, decide_eq_false (show ¬ -1 ≤ c 79 by omega)]; rfl))
                clear h1
                go_wp2
                go_ret
                exact ⟨ret_bool E.out.symm, (Below.refl _ _).alloc (Nat.le_refl _) _⟩
              · have e1 : decide (c 79 < -1) = false := decide_eq_false h1
                by_cases h2 : 7 < c 79
                · have e2 : decide (7 < c 79) = true := decide_eq_true h2
                  have E := Lib.hid (HNo.out (by rw [HD.out, decide_eq_false (show ¬ c 79 ≤ 7 by omega), Bool.and_false]))
                  clear h1 h2
                  go_wp2
                  go_ret
                  exact ⟨ret_bool E.out.symm, (Below.refl _ _).alloc (Nat.le_refl _) _⟩
                · have e2 : decide (7 < c 79) = false := decide_eq_false h2
                  have E := Lib.hid (HYes.out (by rw [HD.out, decide_eq_true (show -1 ≤ c 79 by omega), decide_eq_true (show c 79 ≤ 7 by omega)]; rfl))
                  clear h1 h2
                  go_wp2
                  go_round
                  case rel => exact ⟨1, by omega, rfl, E.out⟩
                  case measure => simp [intOf]
            · have hix : ∀ w, (Instr.index 27 (.agg #[.int .i8 (c 79), .int .i8 (c 80)]) (.int .i64 1)).run Tryd.prog w = .ok (.int .i8 (c 80)) w := fun _ => by kernel_rfl
              have HNo := Lib.hid (fun h => Y.plain_noR (c := c) 0 1 (by omega) (by omega) h)
              have HYes := Lib.hid (fun h => Y.RkTo.next (c := c) HR.out h)
              have HD := Lib.hid (show Y.rookOk (c (79 + 2 * 0 + 1)) = (decide (-1 ≤ c 80) && decide (c 80 ≤ 7)) from rfl)
              by_cases h1 : c 80 < -1
              · have e1 : decide (c 80 < -1) = true := decide_eq_true h1
                have E := Lib.hid (HNo.out (by rw [HD.out, decide_eq_false (show ¬ -1 ≤ c 80 by omega)]; rfl))
                clear h1
                go_wp2
                go_ret
                exact ⟨ret_bool E.out.symm, (Below.refl _ _).alloc (Nat.le_refl _) _⟩
              · have e1 : decide (c 80 < -1) = false := decide_eq_false h1
                by_cases h2 : 7 < c 80
                · have e2 : decide (7 < c 80) = true := decide_eq_true h2
                  have E := Lib.hid (HNo.out (by rw [HD.out, decide_eq_false (show ¬ c 80 ≤ 7 by omega), Bool.and_false]))
                  clear h1 h2
                  go_wp2
                  go_ret
                  exact ⟨ret_bool E.out.symm, (Below.refl _ _).alloc (Nat.le_refl _) _⟩
                · have e2 : decide (7 < c 80) = false := decide_eq_false h2
                  have E := Lib.hid (HYes.out (by rw [HD.out, decide_eq_true (show -1 ≤ c 80 by omega), decide_eq_true (show c 80 ≤ 7 by omega)]; rfl))
                  clear h1 h2
                  go_wp2
                  go_round
                  case rel => exact ⟨2, by omega, rfl, E.out⟩
                  case measure => simp [intOf]
            · have HNo := Lib.hid (fun h => Y.plain_noC (c := c) 0 (by omega) h)
              have HYes := Lib.hid (fun h => Y.SdTo.next (c := c) HS.out HR.out h)
              have HD := Lib.hid (show Y.chk (c 0) (c (84 + 0)) = (decide (c 84 ≤ 3) && (c 84 == 0 || c 0 == 5)) from rfl)
              by_cases h1 : 3 < c 84
              · have e1 : decide (3 < c 84) = true := decide_eq_true h1
                have E := Lib.hid (HNo.out (by rw [HD.out, decide_eq_false (show ¬ c 84 ≤ 3 by omega)]; rfl))
                clear h1
                go_wp2
                go_ret
                exact ⟨ret_bool E.out.symm, (Below.refl _ _).alloc (Nat.le_refl _) _⟩
              · have e1 : decide (3 < c 84) = false := decide_eq_false h1
                by_cases h2 : 0 < c 84
                · have e2 : decide (0 < c 84) = true := decide_eq_true h2
                  cases h5 : (c 0 != 5)
                  · have E := Lib.hid (HYes.out (by rw [HD.out, decide_eq_true (show c 84 ≤ 3 by omega), show (c 0 == 5) = true by simpa using h5, Bool.or_true]; rfl))
                    clear h1 h2
                    go_wp2
                    go_round
                    case rel => exact ⟨1, by omega, rfl, E.out⟩
                    case measure => simp [intOf]
                  · have E := Lib.hid (HNo.out (by rw [HD.out, show (c 84 == 0) = false by simp; omega, show (c 0 == 5) = false by simpa using h5, Bool.or_false, Bool.and_false]))
                    clear h1 h2
                    go_wp2
                    go_ret
                    exact ⟨ret_bool E.out.symm, (Below.refl _ _).alloc (Nat.le_refl _) _⟩
                · have e2 : decide (0 < c 84) = false := decide_eq_false h2
                  have E := Lib.hid (HYes.out (by rw [HD.out, decide_eq_true (show c 84 ≤ 3 by omega), show (c 84 == 0) = true by simp; omega]; rfl))
                  clear h1 h2
                  go_wp2
                  go_round
                  case rel => exact ⟨1, by omega, rfl, E.out⟩
                  case measure => simp [intOf]
        · go_wp2
          go_loop [53] (fun i => ∃ j : Nat, j ≤ 2 ∧ i = .int .i64 (j : Int) ∧ Y.RkTo c 1 j) (fun i => 2 - (intOf i).toNat)
          case atStart => exact ⟨0, Nat.zero_le _, rfl, fun j hj => by omega⟩
          case round =>
            obtain ⟨j, hj, rfl, hR⟩ := hrel
            have HR := Lib.hid hR
            clear hR
            rcases (show j = 0 ∨ j = 1 ∨ j = 2 by omega) with rfl | rfl | rfl
            · have hix : ∀ w, (Instr.index 27 (.agg #[.int .i8 (c 81), .int .i8 (c 82)]) (.int .i64 0)).run Tryd.prog w = .ok (.int .i8 (c 81)) w := fun _ => by kernel_rfl
              have HNo := Lib.hid (fun h => Y.plain_noR (c := c) 1 0 (by omega) (by omega) h)
              have HYes := Lib.hid (fun h => Y.RkTo.next (c := c) HR.out h)
              have HD := Lib.hid (show Y.rookOk (c (79 + 2 * 1 + 0)) = (decide (-1 ≤ c 81) && decide (c 81 ≤ 7)) from rfl)
              by_cases h1 : c 81 < -1
              · have e1 : decide (c 81 < -1) = true := decide_eq_true h1
                have E := Lib.hid (HNo.out (by rw [HD.out, decide_eq_false (show ¬ -1 ≤ c 81 by omega)]; rfl))
                clear h1
                go_wp2
                go_ret
                exact ⟨ret_bool E.out.symm, (Below.refl _ _).alloc (Nat.le_refl _) _⟩
              · have e1 : decide (c 81 < -1) = false := decide_eq_false h1
                by_cases h2 : 7 < c 81
                · have e2 : decide (7 < c 81) = true := decide_eq_true h2
                  have E := Lib.hid (HNo.out (by rw [HD.out, decide_eq_false (show ¬ c 81 ≤ 7 by omega), Bool.and_false]))
                  clear h1 h2
                  go_wp2
                  go_ret
                  exact ⟨ret_bool E.out.symm, (Below.refl _ _).alloc (Nat.le_refl _) _⟩
                · have e2 : decide (7 < c 81) = false := decide_eq_false h2
                  have E := Lib.hid (HYes.out (by rw [HD.out, decide_eq_true (show -1 ≤ c 81 by omega), decide_eq_true (show c 81 ≤ 7 by omega)]; rfl))
                  clear h1 h2
                  go_wp2
                  go_round
                  case rel => exact ⟨1, by omega, rfl, E.out⟩
                  case measure => simp [intOf]
            · have hix : ∀ w, (Instr.index 27 (.agg #[.int .i8 (c 81), .int .i8 (c 82)]) (.int .i64 1)).run Tryd.prog w = .ok (.int .i8 (c 82)) w := fun _ => by kernel_rfl
              have HNo := Lib.hid (fun h => Y.plain_noR (c := c) 1 1 (by omega) (by omega) h)
              have HYes := Lib.hid (fun h => Y.RkTo.next (c := c) HR.out h)
              have HD := Lib.hid (show Y.rookOk (c (79 + 2 * 1 + 1)) = (decide (-1 ≤ c 82) && decide (c 82 ≤ 7)) from rfl)
              by_cases h1 : c 82 < -1
              · have e1 : decide (c 82 < -1) = true := decide_eq_true h1
                have E := Lib.hid (HNo.out (by rw [HD.out, decide_eq_false (show ¬ -1 ≤ c 82 by omega)]; rfl))
                clear h1
                go_wp2
                go_ret
                exact ⟨ret_bool E.out.symm, (Below.refl _ _).alloc (Nat.le_refl _) _⟩
              · have e1 : decide (c 82 < -1) = false := decide_eq_false h1
                by_cases h2 : 7 < c 82
                · have e2 : decide (7 < c 82) = true := decide_eq_true h2
                  have E := Lib.hid (HNo.out (by rw [HD.out, decide_eq_false (show ¬ c 82 ≤ 7 by omega), Bool.and_false]))
                  clear h1 h2
                  go_wp2
                  go_ret
                  exact ⟨ret_bool E.out.symm, (Below.refl _ _).alloc (Nat.le_refl _) _⟩
                · have e2 : decide (7 < c 82) = false := decide_eq_false h2
                  have E := Lib.hid (HYes.out (by rw [HD.out, decide_eq_true (show -1 ≤ c 82 by omega), decide_eq_true (show c 82 ≤ 7 by omega)]; rfl))
                  clear h1 h2
                  go_wp2
                  go_round
                  case rel => exact ⟨2, by omega, rfl, E.out⟩
                  case measure => simp [intOf]
            · have HNo := Lib.hid (fun h => Y.plain_noC (c := c) 1 (by omega) h)
              have HYes := Lib.hid (fun h => Y.SdTo.next (c := c) HS.out HR.out h)
              have HD := Lib.hid (show Y.chk (c 0) (c (84 + 1)) = (decide (c 85 ≤ 3) && (c 85 == 0 || c 0 == 5)) from rfl)
              by_cases h1 : 3 < c 85
              · have e1 : decide (3 < c 85) = true := decide_eq_true h1
                have E := Lib.hid (HNo.out (by rw [HD.out, decide_eq_false (show ¬ c 85 ≤ 3 by omega)]; rfl))
                clear h1
                go_wp2
                go_ret
                exact ⟨ret_bool E.out.symm, (Below.refl _ _).alloc (Nat.le_refl _) _⟩
              · have e1 : decide (3 < c 85) = false := decide_eq_false h1
                by_cases h2 : 0 < c 85
                · have e2 : decide (0 < c 85) = true := decide_eq_true h2
                  cases h5 : (c 0 != 5)
                  · have E := Lib.hid (HYes.out (by rw [HD.out, decide_eq_true (show c 85 ≤ 3 by omega), show (c 0 == 5) = true by simpa using h5, Bool.or_true]; rfl))
                    clear h1 h2
                    go_wp2
                    go_round
                    case rel => exact ⟨2, by omega, rfl, E.out⟩
                    case measure => simp [intOf]
                  · have E := Lib.hid (HNo.out (by rw [HD.out, show (c 85 == 0) = false by simp; omega, show (c 0 == 5) = false by simpa using h5, Bool.or_false, Bool.and_false]))
                    clear h1 h2
                    go_wp2
                    go_ret
                    exact ⟨ret_bool E.out.symm, (Below.refl _ _).alloc (Nat.le_refl _) _⟩
                · have e2 : decide (0 < c 85) = false := decide_eq_false h2
                  have E := Lib.hid (HYes.out (by rw [HD.out, decide_eq_true (show c 85 ≤ 3 by omega), show (c 85 == 0) = true by simp; omega]; rfl))
                  clear h1 h2
                  go_wp2
                  go_round
                  case rel => exact ⟨2, by omega, rfl, E.out⟩
                  case measure => simp [intOf]
        · have E := Lib.hid (Y.plain_yes (by have := H0.out; omega) (by have := H1.out; omega) (by have := H2.out; omega) (by have := H3.out; omega) HB.out HS.out)
          go_wp2
          go_ret
          exact ⟨ret_bool E.out.symm, (Below.refl _ _).alloc (Nat.le_refl _) _⟩

set_option maxRecDepth 100000 in
set_option maxHeartbeats 4000000 in
theorem vclocks_any (c : Nat → Int) (w : World) :
    Calls Tryd.prog 63 #[.agg (posC c)] w fun e w' => e = .returned (.bool (Y.clocks c)) ∧ Below w.heap.size w w' := by
  have hp := PosIn.new w 70 c
  have c86 := hp.cell 86 (by decide) .i64 rfl
  have c87 := hp.cell 87 (by decide) .i64 rfl
  by_cases h0 : 0 ≤ c 86
  rotate_left
  · have d0 : decide (0 ≤ c 86) = false := decide_eq_false h0
    have E := Lib.hid (show Y.clocks c = false by unfold Y.clocks; rw [d0]; simp)
    clear h0
    go_enter Tryd.func63, Tryd.ntmps63
    go_wp2
    go_ret
    exact ⟨ret_bool E.out.symm, (Below.refl _ _).alloc (Nat.le_refl _) _⟩
  have d0 : decide (0 ≤ c 86) = true := decide_eq_true h0
  clear h0
  by_cases h1 : c 86 ≤ 10000
  rotate_left
  · have d1 : decide (c 86 ≤ 10000) = false := decide_eq_false h1
    have E := Lib.hid (show Y.clocks c = false by unfold Y.clocks; rw [d1]; simp)
    clear h1
    go_enter Tryd.func63, Tryd.ntmps63
    go_wp2
    go_ret
    exact ⟨ret_bool E.out.symm, (Below.refl _ _).alloc (Nat.le_refl _) _⟩
  have d1 : decide (c 86 ≤ 10000) = true := decide_eq_true h1
  clear h1
  by_cases h2 : 1 ≤ c 87
  rotate_left
  · have d2 : decide (1 ≤ c 87) = false := decide_eq_false h2
    have E := Lib.hid (show Y.clocks c = false by unfold Y.clocks; rw [d2]; simp)
    clear h2
    go_enter Tryd.func63, Tryd.ntmps63
    go_wp2
    go_ret
    exact ⟨ret_bool E.out.symm, (Below.refl _ _).alloc (Nat.le_refl _) _⟩
  have d2 : decide (1 ≤ c 87) = true := decide_eq_true h2
  clear h2
  by_cases h3 : c 87 ≤ 10000
  rotate_left
  · have d3 : decide (c 87 ≤ 10000) = false := decide_eq_false h3
    have E := Lib.hid (show Y.clocks c = false by unfold Y.clocks; rw [d3]; simp)
    clear h3
    go_enter Tryd.func63, Tryd.ntmps63
    go_wp2
    go_ret
    exact ⟨ret_bool E.out.symm, (Below.refl _ _).alloc (Nat.le_refl _) _⟩
  have d3 : decide (c 87 ≤ 10000) = true := decide_eq_true h3
  clear h3
  have E := Lib.hid (show Y.clocks c = true by unfold Y.clocks; rw [d0, d1, d2, d3]; rfl)
  go_enter Tryd.func63, Tryd.ntmps63
  go_wp2
  go_ret
  exact ⟨ret_bool E.out.symm, (Below.refl _ _).alloc (Nat.le_refl _) _⟩

set_option maxRecDepth 100000 in
set_option maxHeartbeats 1000000 in
theorem vcount_any (c : Nat → Int) (t : Int) (w : World) (hc : PosOk c) (h0 : 0 ≤ t) (h1 : t ≤ 1) :
    Calls Tryd.prog 100 #[.agg (posC c), .int .u8 t, .int .u8 6] w fun e w' => e = .returned (.int .i64 (Y.cnt c t)) ∧ Below w.heap.size w w' := by
  have hp := PosIn.new w 70 c
  have Hc := Lib.hid (pos_bd hc)
  have hmk : P.make t 6 = 8 * t + 6 := by unfold P.make; rw [if_pos (by omega)]
  have HM : Hid (∀ w, Calls Tryd.prog 77 #[.int .u8 t, .int .u8 6] w fun e w' => e = .returned (.int .u8 (8 * t + 6)) ∧ w = w') := Lib.hid (fun w => by rw [← hmk]; exact make_any t 6 w h0 (by omega) (by omega) (by omega))
  clear hc hmk
  unfold Y.cnt
  generalize 8 * t + 6 = v at *
  go_enter Tryd.func100, Tryd.ntmps100
  go_wp2_with ((with_reducible refine wp_load_bd rfl _ rfl c ?_ ?_); · (exact ⟨_, _, _, rfl, hp.heap⟩))
  go_loop [7, 13] (fun p i => ∃ k : Nat, k ≤ 64 ∧ i = .int .i64 (k : Int) ∧ p = .int .i64 (cntTo c v k : Int)) (fun _ i => 64 - (intOf i).toNat)
  case atStart => exact ⟨0, Nat.zero_le _, rfl, rfl⟩
  case round =>
    obtain ⟨k, hk, rfl, rfl⟩ := hrel
    by_cases hlt : k < 64
    · have hi := bd_index c k hlt
      have hl := cntTo_le c v k
      cases hx : (c (1 + k) == v)
      · have E := Lib.hid (show cntTo c v (k + 1) = cntTo c v k by rw [cntTo, hx]; rfl)
        go_wp2_with (go_at_call 77; refine (HM.out _).mono ?_; rintro e w' ⟨rfl, rfl⟩)
        go_round
        case rel => exact ⟨k + 1, by omega, by go_num, by rw [E.out]⟩
        case measure => simp [intOf]; omega
      · have E := Lib.hid (show cntTo c v (k + 1) = cntTo c v k + 1 by rw [cntTo, hx]; rfl)
        go_wp2_with (go_at_call 77; refine (HM.out _).mono ?_; rintro e w' ⟨rfl, rfl⟩)
        go_round
        case rel => exact ⟨k + 1, by omega, by go_num, by rw [E.out]; go_num⟩
        case measure => simp [intOf]; omega
    · obtain rfl : k = 64 := by omega
      go_wp2
      go_ret
      exact ⟨rfl, (Below.refl _ _).alloc (Nat.le_refl _) _⟩

namespace V
def pawns (v : Int) : Bool := decide (v < 9) && v != 8
def pockets (v : Int) : Bool := v == 2
end V
set_option maxRecDepth 100000 in
set_option maxHeartbeats 1000000 in
theorem rpawns_any (v : Nat) (w : World) :
    Calls Tryd.prog 102 #[.int .u8 (v : Int)] w fun e w' => e = .returned (.bool (V.pawns v)) ∧ Below w.heap.size w w' := by
  have hv : ∃ s a b c d e l, V.of v = #[.string s, .bool a, .bool b, .bool c, .bool d, .bool e, .int .u8 l] ∧ V.pawns v = e := by
    by_cases h9 : v < 9
    · match v, h9 with
      | 0, _ | 1, _ | 2, _ | 3, _ | 4, _ | 5, _ | 6, _ | 7, _ | 8, _ => exact ⟨_, _, _, _, _, _, _, rfl, rfl⟩
    · refine ⟨_, _, _, _, _, _, _, (by unfold V.of; split <;> first | omega | rfl), ?_⟩ <;> (unfold V.pawns; first | (rw [decide_eq_false (by omega)]; rfl) | (simp; omega))
  obtain ⟨s, a, b, c, d, e, l, hv, r0⟩ := hv
  have hk := fun w => of_k v w
  rw [hv] at hk
  rw [r0]
  clear hv r0
  have H := Lib.hid hk
  clear hk
  have hfd : ∀ w, (Instr.field 112 (.agg #[.string s, .bool a, .bool b, .bool c, .bool d, .bool e, .int .u8 l]) 4).run Tryd.prog w = .ok (.bool e) w := fun _ => by kernel_rfl
  go_enter Tryd.func102, Tryd.ntmps102
  go_wp2_with (go_at_call 109; refine (H.out _).mono ?_; rintro e w1 ⟨rfl, hb1⟩)
  go_ret
  exact ⟨rfl, hb1⟩
set_option maxRecDepth 100000 in
set_option maxHeartbeats 1000000 in
theorem rpockets_any (v : Nat) (w : World) :
    Calls Tryd.prog 103 #[.int .u8 (v : Int)] w fun e w' => e = .returned (.bool (V.pockets v)) ∧ Below w.heap.size w w' := by
  have hv : ∃ s a b c d e l, V.of v = #[.string s, .bool a, .bool b, .bool c, .bool d, .bool e, .int .u8 l] ∧ V.pockets v = d := by
    by_cases h9 : v < 9
    · match v, h9 with
      | 0, _ | 1, _ | 2, _ | 3, _ | 4, _ | 5, _ | 6, _ | 7, _ | 8, _ => exact ⟨_, _, _, _, _, _, _, rfl, rfl⟩
    · refine ⟨_, _, _, _, _, _, _, (by unfold V.of; split <;> first | omega | rfl), ?_⟩ <;> (unfold V.pockets; first | (rw [decide_eq_false (by omega)]; rfl) | (simp; omega))
  obtain ⟨s, a, b, c, d, e, l, hv, r0⟩ := hv
  have hk := fun w => of_k v w
  rw [hv] at hk
  rw [r0]
  clear hv r0
  have H := Lib.hid hk
  clear hk
  have hfd : ∀ w, (Instr.field 112 (.agg #[.string s, .bool a, .bool b, .bool c, .bool d, .bool e, .int .u8 l]) 3).run Tryd.prog w = .ok (.bool d) w := fun _ => by kernel_rfl
  go_enter Tryd.func103, Tryd.ntmps103
  go_wp2_with (go_at_call 109; refine (H.out _).mono ?_; rintro e w1 ⟨rfl, hb1⟩)
  go_ret
  exact ⟨rfl, hb1⟩
namespace Y
def PwTo (c : Nat → Int) (k : Nat) : Prop := ∀ j, j < k → pawnOk (c 0) j (c (1 + j)) = true
theorem PwTo.next {c : Nat → Int} {k : Nat} (h : PwTo c k) (e : pawnOk (c 0) k (c (1 + k)) = true) : PwTo c (k + 1) := fun j hj => by
  rcases Nat.lt_succ_iff_lt_or_eq.1 hj with h1 | rfl
  · exact h j h1
  · exact e
theorem pawnsTo_if (c : Nat → Int) : ∀ n, pawnsTo c n = true ↔ PwTo c n
  | 0 => ⟨fun _ j hj => by omega, fun _ => rfl⟩
  | n + 1 => by
    rw [pawnsTo, Bool.and_eq_true, pawnsTo_if c n]
    exact ⟨fun ⟨a, b⟩ => a.next b, fun h => ⟨fun j hj => h j (by omega), h n (by omega)⟩⟩
theorem pawns_no {c : Nat → Int} (k : Nat) (hk : k < 64) (h : pawnOk (c 0) k (c (1 + k)) = false) : pawns c = false := by
  rw [Bool.eq_false_iff]
  intro e
  have := (pawnsTo_if c 64).1 e k hk
  rw [h] at this
  cases this
end Y
set_option maxRecDepth 100000 in
set_option maxHeartbeats 4000000 in
theorem vpawns_any (c : Nat → Int) (w : World) (hc : PosOk c) (hv : c 0 < 9) :
    Calls Tryd.prog 65 #[.agg (posC c)] w fun e w' => e = .returned (.bool (Y.pawns c)) ∧ Below w.heap.size w w' := by
  have hp := PosIn.new w 70 c
  have Hc := Lib.hid (pos_bd hc)
  obtain ⟨v0, v1⟩ := pos_u8 hc (i := 0) (by decide) rfl
  clear v1
  obtain ⟨v, hvv⟩ : ∃ v : Nat, c 0 = (v : Int) := ⟨(c 0).toNat, by omega⟩
  have HPw : Hid (∀ w, Calls Tryd.prog 102 #[.int .u8 (c 0)] w fun e w' => e = .returned (.bool (c 0 != 8)) ∧ Below w.heap.size w w') := Lib.hid (fun w => by
    have := rpawns_any v w
    unfold V.pawns at this
    rwa [← hvv, decide_eq_true hv, Bool.true_and] at this)
  have hb0 : Below w.heap.size w (w.alloc (.cells (posC c) 70)) := (Below.refl _ _).alloc (Nat.le_refl _) _
  have HP := Lib.hid (And.intro hp hb0)
  clear hc hvv v0 hb0 hv
  go_enter Tryd.func65, Tryd.ntmps65
  go_wp2_with ((with_reducible refine wp_load_bd rfl _ rfl c ?_ ?_); · (exact ⟨_, _, _, rfl, hp.heap⟩))
  clear hp
  go_loopw [9] (fun i wr => ∃ k : Nat, k ≤ 64 ∧ i = .int .i64 (k : Int) ∧ Y.PwTo c k ∧ PosIn wr w.heap.size 70 c ∧ Below w.heap.size w wr) (fun i _ => 64 - (intOf i).toNat)
  case atStart => exact ⟨0, Nat.zero_le _, rfl, (fun j hj => by omega), HP.out.1, HP.out.2⟩
  case round =>
    obtain ⟨k, hk, rfl, hB, hp, hbr⟩ := hrel
    have HB := Lib.hid hB
    clear hB
    by_cases hlt : k < 64
    · have hi := bd_index c k hlt
      have c0 := hp.cell 0 (by decide) .u8 rfl
      obtain ⟨x0, x1⟩ := Hc.out k hlt
      have HNo := Lib.hid (fun h => Y.pawns_no (c := c) k hlt h)
      have HYes := Lib.hid (fun h => Y.PwTo.next (c := c) HB.out h)
      generalize c (1 + k) = x at *
      generalize c 0 = vv at *
      cases hq : (P.kind x != 1)
      rotate_left
      · have E := Lib.hid (show Y.pawnOk vv k x = true by unfold Y.pawnOk; rw [hq]; rfl)
        go_wp2_with (go_at_call 61; refine (kind_any _ _ x0 x1).mono ?_; rintro e w' ⟨rfl, rfl⟩)
        go_roundw
        case rel => exact ⟨k + 1, by omega, by go_num, HYes.out E.out, hp, hbr⟩
        case measure => simp [intOf]; omega
      have HF := Lib.hid (show Y.pawnOk vv k x = (vv != 8 && (decide (k ≤ 55) && (decide (8 ≤ k) || (vv == 7 && x == 1)))) by unfold Y.pawnOk; rw [hq]; rfl)
      cases h8 : (vv != 8)
      · have e7 : (vv == 7) = false := by simp at h8 ⊢; omega
        have E := Lib.hid (show Y.pawnOk vv k x = false by rw [HF.out, h8]; rfl)
        go_wp2_with (first | (go_at_call 61; refine (kind_any _ _ x0 x1).mono ?_; rintro e w' ⟨rfl, rfl⟩) | (go_at_call 102; refine (HPw.out _).mono ?_; rintro e w3 ⟨rfl, hb3⟩))
        go_ret
        exact ⟨ret_bool (HNo.out E.out).symm, below_next hbr hb3⟩
      · by_cases hk8 : k < 8
        · have hd : decide ((k : Int) < 8) = true := decide_eq_true (by omega)
          cases e7 : (vv == 7)
          · have E := Lib.hid (show Y.pawnOk vv k x = false by rw [HF.out, e7, decide_eq_false (show ¬ 8 ≤ k by omega)]; simp)
            go_wp2_with (first | (go_at_call 61; refine (kind_any _ _ x0 x1).mono ?_; rintro e w' ⟨rfl, rfl⟩) | (go_at_call 102; refine (HPw.out _).mono ?_; rintro e w3 ⟨rfl, hb3⟩))
            (go_ret; exact ⟨ret_bool (HNo.out E.out).symm, below_next hbr hb3⟩)
          · cases e1 : (x == 1)
            · have E := Lib.hid (show Y.pawnOk vv k x = false by rw [HF.out, e1, decide_eq_false (show ¬ 8 ≤ k by omega)]; simp)
              go_wp2_with (first | (go_at_call 61; refine (kind_any _ _ x0 x1).mono ?_; rintro e w' ⟨rfl, rfl⟩) | (go_at_call 102; refine (HPw.out _).mono ?_; rintro e w3 ⟨rfl, hb3⟩))
              (go_ret; exact ⟨ret_bool (HNo.out E.out).symm, below_next hbr hb3⟩)
            · have E := Lib.hid (show Y.pawnOk vv k x = true by rw [HF.out, e1, e7, h8, decide_eq_true (show k ≤ 55 by omega)]; simp)
              go_wp2_with (first | (go_at_call 61; refine (kind_any _ _ x0 x1).mono ?_; rintro e w' ⟨rfl, rfl⟩) | (go_at_call 102; refine (HPw.out _).mono ?_; rintro e w3 ⟨rfl, hb3⟩))
              (go_roundw; (case rel => exact ⟨k + 1, by omega, by go_num, HYes.out E.out, hp.below hb3, below_next hbr hb3⟩); (case measure => simp [intOf]; omega))
        · have hd : decide ((k : Int) < 8) = false := decide_eq_false (by omega)
          by_cases h55 : 55 < k
          · have hd2 : decide ((55 : Int) < (k : Int)) = true := decide_eq_true (by omega)
            have E := Lib.hid (show Y.pawnOk vv k x = false by rw [HF.out, decide_eq_false (show ¬ k ≤ 55 by omega)]; simp)
            cases e7 : (vv == 7) <;> cases e1 : (x == 1)
            all_goals
              go_wp2_with (first | (go_at_call 61; refine (kind_any _ _ x0 x1).mono ?_; rintro e w' ⟨rfl, rfl⟩) | (go_at_call 102; refine (HPw.out _).mono ?_; rintro e w3 ⟨rfl, hb3⟩))
              (go_ret; exact ⟨ret_bool (HNo.out E.out).symm, below_next hbr hb3⟩)
          · have hd2 : decide ((55 : Int) < (k : Int)) = false := decide_eq_false (by omega)
            have E := Lib.hid (show Y.pawnOk vv k x = true by rw [HF.out, h8, decide_eq_true (show k ≤ 55 by omega), decide_eq_true (show 8 ≤ k by omega)]; rfl)
            cases e7 : (vv == 7) <;> cases e1 : (x == 1)
            all_goals
              go_wp2_with (first | (go_at_call 61; refine (kind_any _ _ x0 x1).mono ?_; rintro e w' ⟨rfl, rfl⟩) | (go_at_call 102; refine (HPw.out _).mono ?_; rintro e w3 ⟨rfl, hb3⟩))
              (go_roundw; (case rel => exact ⟨k + 1, by omega, by go_num, HYes.out E.out, hp.below hb3, below_next hbr hb3⟩); (case measure => simp [intOf]; omega))
    · obtain rfl : k = 64 := by omega
      have E := Lib.hid (show Y.pawns c = true from (Y.pawnsTo_if c 64).2 HB.out)
      go_wp2
      go_ret
      exact ⟨ret_bool E.out.symm, hbr⟩

end Go.Proofs.YtlphjjekamhnlaaDoor
