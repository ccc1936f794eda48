/- The document's answer of layer 12 (valid): All. -/
import Derived.Test.YtlphjjekamhnlaaDoorDvB
import Derived.Test.YtlphjjekamhnlaaDoorDvC
import Derived.Test.YtlphjjekamhnlaaDoorDvD
import Derived.Test.YtlphjjekamhnlaaDoorVpE
import Derived.Deep.CutRange
namespace Go.Proofs.YtlphjjekamhnlaaDoor
open Go.RowKit Go.Sort
attribute [local go_sem] Oper.semAt_some

/-- A callee makes memory beside: what lies stays. -/
theorem grown_put {w w2 w3 : World} {v : Value} {n : Nat} {xs : List Value} {c : Nat → Int} (h : w2.ownsRow (w.heap.size + 1) 42 1 v n xs ∧ PosAt w2 w.heap.size c ∧ Below w.heap.size w w2) (hb : Below w2.heap.size w2 w3) :
    w3.ownsRow (w.heap.size + 1) 42 1 v n xs ∧ PosAt w3 w.heap.size c ∧ Below w.heap.size w w3 := ⟨owns_below h.1 hb, h.2.1.below hb, below_next h.2.2 hb⟩
set_option maxRecDepth 100000 in
set_option maxHeartbeats 8000000 in
theorem d12all_plain (c : Nat → Int) (w : World) (hc : PosOk c) (hpl : Y.plain c = true) :
    Calls Tryd.prog 18 #[.agg (posC c)] w (Y.End (Y.all c) w) := by
  have ht : c 78 = 0 ∨ c 78 = 1 := Y.t01 hc hpl
  obtain ⟨hv9, _, hlo, h64⟩ := Y.head_bd hpl
  have hl := (Y.plain_split hpl).2.1
  have h7 : ∀ t k, t < 2 → k < 2 → -1 ≤ c (79 + 2 * t + k) ∧ c (79 + 2 * t + k) ≤ 7 := fun t k ht hk => Y.side_rook hpl t k ht hk
  have A0 : Hid (∀ w, Calls Tryd.prog 35 #[.agg (posC c)] w fun e w' => e = .returned (.bool true) ∧ Below w.heap.size w w') := Lib.hid (fun w => by rw [← hpl]; exact d12plain_any c w hc)
  obtain ⟨b1, hb1⟩ : ∃ b, Y.clocks c = b := ⟨_, rfl⟩
  obtain ⟨b2, hb2⟩ : ∃ b, Y.kings c = b := ⟨_, rfl⟩
  have A2 : Hid (∀ w, Calls Tryd.prog 36 #[.agg (posC c)] w fun e w' => e = .returned (.bool b2) ∧ Below w.heap.size w w') := Lib.hid (fun w => by rw [← hb2]; exact d12kings_any c w hc hv9 ht)
  obtain ⟨b3, hb3⟩ : ∃ b, Y.pawns c = b := ⟨_, rfl⟩
  have A3 : Hid (∀ w, Calls Tryd.prog 37 #[.agg (posC c)] w fun e w' => e = .returned (.bool b3) ∧ Below w.heap.size w w') := Lib.hid (fun w => by rw [← hb3]; exact d12pawns_any c w hc)
  obtain ⟨b4, hb4⟩ : ∃ b, Y.pockets c = b := ⟨_, rfl⟩
  have A4 : Hid (∀ w, Calls Tryd.prog 38 #[.agg (posC c)] w fun e w' => e = .returned (.bool b4) ∧ Below w.heap.size w w') := Lib.hid (fun w => by rw [← hb4]; exact d12pockets_any c w hc hl)
  obtain ⟨b6, hb6⟩ : ∃ b, Y.passing c = b := ⟨_, rfl⟩
  have A6 : Hid (∀ w, Calls Tryd.prog 40 #[.agg (posC c)] w fun e w' => e = .returned (.bool b6) ∧ Below w.heap.size w w') := Lib.hid (fun w => by rw [← hb6]; exact d12passing_any c w hc ht hlo h64)
  obtain ⟨b7, hb7⟩ : ∃ b, Y.check c = b := ⟨_, rfl⟩
  have A7 : Hid (∀ w, Calls Tryd.prog 41 #[.agg (posC c)] w fun e w' => e = .returned (.bool b7) ∧ Below w.heap.size w w') := Lib.hid (fun w => by rw [← hb7]; exact d12check_any c w hc ht)
  obtain ⟨b5, hb5⟩ : ∃ b, Y.rooks c = b := ⟨_, rfl⟩
  obtain ⟨r00, g00⟩ : ∃ r, Y.right c 0 0 = r := ⟨_, rfl⟩
  have R00 : Hid (∀ w, Calls Tryd.prog 39 #[.agg (posC c), .int .u8 0, .int .i64 0] w fun e w' => e = .returned (.bool r00) ∧ Below w.heap.size w w') := Lib.hid (fun w => by rw [← g00]; exact d12right_any c 0 0 w hc (by omega) (by omega) (h7 0 0 (by omega) (by omega)).1 (h7 0 0 (by omega) (by omega)).2)
  obtain ⟨r01, g01⟩ : ∃ r, Y.right c 0 1 = r := ⟨_, rfl⟩
  have R01 : Hid (∀ w, Calls Tryd.prog 39 #[.agg (posC c), .int .u8 0, .int .i64 1] w fun e w' => e = .returned (.bool r01) ∧ Below w.heap.size w w') := Lib.hid (fun w => by rw [← g01]; exact d12right_any c 0 1 w hc (by omega) (by omega) (h7 0 1 (by omega) (by omega)).1 (h7 0 1 (by omega) (by omega)).2)
  obtain ⟨r10, g10⟩ : ∃ r, Y.right c 1 0 = r := ⟨_, rfl⟩
  have R10 : Hid (∀ w, Calls Tryd.prog 39 #[.agg (posC c), .int .u8 1, .int .i64 0] w fun e w' => e = .returned (.bool r10) ∧ Below w.heap.size w w') := Lib.hid (fun w => by rw [← g10]; exact d12right_any c 1 0 w hc (by omega) (by omega) (h7 1 0 (by omega) (by omega)).1 (h7 1 0 (by omega) (by omega)).2)
  obtain ⟨r11, g11⟩ : ∃ r, Y.right c 1 1 = r := ⟨_, rfl⟩
  have R11 : Hid (∀ w, Calls Tryd.prog 39 #[.agg (posC c), .int .u8 1, .int .i64 1] w fun e w' => e = .returned (.bool r11) ∧ Below w.heap.size w w') := Lib.hid (fun w => by rw [← g11]; exact d12right_any c 1 1 w hc (by omega) (by omega) (h7 1 1 (by omega) (by omega)).1 (h7 1 1 (by omega) (by omega)).2)
  have HR5 := Lib.hid (show b5 = ((r00 && r01) && (r10 && r11)) by rw [← hb5, ← g00, ← g01, ← g10, ← g11]; rfl)
  have HB1 := Lib.hid (show b1 = (decide (0 ≤ c 86) && (decide (c 86 ≤ 10000) && (decide (1 ≤ c 87) && decide (c 87 ≤ 10000)))) by rw [← hb1]; rfl)
  have HA := Lib.hid (Y.all_pre c hpl)
  have HLen := Lib.hid (Y.pre_len c)
  have HS1 := Lib.hid (show Y.pre c 2 = Y.pre c 1 ++ Y.err b1 125 by rw [← hb1]; rfl)
  have HS2 := Lib.hid (show Y.pre c 3 = Y.pre c 2 ++ Y.err b2 120 by rw [← hb2]; rfl)
  have HS3 := Lib.hid (show Y.pre c 4 = Y.pre c 3 ++ Y.err b3 121 by rw [← hb3]; rfl)
  have HS4 := Lib.hid (show Y.pre c 5 = Y.pre c 4 ++ Y.err b4 122 by rw [← hb4]; rfl)
  have HS5 := Lib.hid (show Y.pre c 6 = Y.pre c 5 ++ Y.err b5 123 by rw [← hb5]; rfl)
  have HS6 := Lib.hid (show Y.pre c 7 = Y.pre c 6 ++ Y.err b6 124 by rw [← hb6]; rfl)
  have HS7 := Lib.hid (show Y.pre c 8 = Y.pre c 7 ++ Y.err b7 126 by rw [← hb7]; rfl)
  have HP0 := Lib.hid (show Y.pre c 1 = [] by show [] ++ Y.err (Y.plain c) 2 = []; rw [hpl]; rfl)
  clear hc hpl ht hv9 hlo h64 h7 hl hb1 hb2 hb3 hb4 hb5 hb6 hb7 g00 g01 g10 g11
  have hp := PosAt.new w c
  have hb0 : Below w.heap.size w (w.alloc (.cells (posC c) 31)) := (Below.refl _ _).alloc (Nat.le_refl _) _
  have HW := Lib.hid (And.intro hp hb0)
  clear hp hb0
  obtain ⟨i0, hi, hz0, hz1, hz2⟩ := info_parts Tryd.info_Err
  go_enter Tryd.func18, Tryd.ntmps18
  go_upto_region 4 with (first
    | ((with_reducible refine wp_load_box_g rfl _ rfl ?_); refine ⟨_, _, rfl, HW.out.1, ?_⟩)
    | (go_at_call 35; refine (A0.out _).mono ?_; rintro e w2 ⟨rfl, hb2⟩))
  have hp2 := HW.out.1.below hb2
  have hbr2 := below_next HW.out.2 hb2
  have c86 := hp2.cellK 86 (by decide) .i64 rfl
  have c87 := hp2.cellK 87 (by decide) .i64 rfl
  have HQ2 := Lib.hid (And.intro hp2 hbr2)
  clear hp2 hbr2 hb2
  go_cut [27] from 4 (fun s27 wx => s27 = .bool (!b1) ∧ w2 = wx)
  case first =>
    clear A0 A2 A3 A4 A6 A7 R00 R01 R10 R11
    by_cases h0 : c 86 < 0
    · have d0 : decide (c 86 < 0) = true := decide_eq_true h0
      have E := Lib.hid (show b1 = false by rw [HB1.out, decide_eq_false (show ¬ 0 ≤ c 86 by omega)]; simp)
      clear h0
      go_wp2
      go_meet
      exact ⟨by rw [E.out]; rfl, rfl⟩
    have d0 : decide (c 86 < 0) = false := decide_eq_false h0
    by_cases h1 : 10000 < c 86
    · have d1 : decide (10000 < c 86) = true := decide_eq_true h1
      have E := Lib.hid (show b1 = false by rw [HB1.out, decide_eq_false (show ¬ c 86 ≤ 10000 by omega)]; simp)
      clear h1
      go_wp2
      go_meet
      exact ⟨by rw [E.out]; rfl, rfl⟩
    have d1 : decide (10000 < c 86) = false := decide_eq_false h1
    by_cases h2 : c 87 < 1
    · have d2 : decide (c 87 < 1) = true := decide_eq_true h2
      have E := Lib.hid (show b1 = false by rw [HB1.out, decide_eq_false (show ¬ 1 ≤ c 87 by omega)]; simp)
      clear h2
      go_wp2
      go_meet
      exact ⟨by rw [E.out]; rfl, rfl⟩
    have d2 : decide (c 87 < 1) = false := decide_eq_false h2
    by_cases h3 : 10000 < c 87
    · have d3 : decide (10000 < c 87) = true := decide_eq_true h3
      have E := Lib.hid (show b1 = false by rw [HB1.out, decide_eq_false (show ¬ c 87 ≤ 10000 by omega)]; simp)
      clear h3
      go_wp2
      go_meet
      exact ⟨by rw [E.out]; rfl, rfl⟩
    have d3 : decide (10000 < c 87) = false := decide_eq_false h3
    have E := Lib.hid (show b1 = true by rw [HB1.out, decide_eq_true (show 0 ≤ c 86 by omega), decide_eq_true (show c 86 ≤ 10000 by omega), decide_eq_true (show 1 ≤ c 87 by omega), decide_eq_true (show c 87 ≤ 10000 by omega)]; rfl)
    clear h0 h1 h2 h3
    go_wp2
    go_meet
    exact ⟨by rw [E.out]; rfl, rfl⟩
  case rest =>
    obtain ⟨rfl, rfl⟩ := hcut
    have hown := World.ownsRow_nil w2 (w.heap.size + 1) 42 1
    have HL : Hid (w2.ownsRow (w.heap.size + 1) 42 1 (.slice none 0 0) (Y.pre c 1).length (Y.cells (Y.pre c 1)) ∧ PosAt w2 w.heap.size c ∧ Below w.heap.size w w2) := Lib.hid ⟨by rw [HP0.out]; exact hown, HQ2.out.1, HQ2.out.2⟩
    clear c86 c87 HQ2 hown
    go_upto_if 27 with fail
    go_cut [3] from 4 (fun s3 wx => wx.ownsRow (w.heap.size + 1) 42 1 s3 (Y.pre c 2).length (Y.cells (Y.pre c 2)) ∧ PosAt wx w.heap.size c ∧ Below w.heap.size w wx)
    case first =>
      have hlen := HLen.out 1
      have HS := Lib.hid HS1.out
      obtain ⟨L, hL⟩ : ∃ L, Y.pre c 1 = L := ⟨_, rfl⟩
      rw [hL] at hlen HL HS
      clear A0 A2 A3 A4 A6 A7 R00 R01 R10 R11 HS1 HS2 HS3 HS4 HS5 HS6 HS7 hL
      cases b1
      · have HE := Lib.hid (show Y.pre c 2 = L ++ [125] from HS.out)
        have hws := HL.out.2.2.size
        have HLn := Lib.hid hlen
        clear HS hlen
        go_wp2_with (at_builtin; refine wpList_append_own _ rfl _ _ 40 rfl (w.heap.size + 1) 42 i0 (.int .i64 0) 1 8 Tryd.underlying40 hi hz0 hz1 hz2 rfl (by decide) _ _ _ rfl (HL.out.1.alloc _) ⟨w2.heap.size, 0, none⟩ 1 1 [.int .i64 125] rfl rfl (cell_one_new _ _ _) (by simp [Value.oneCell']) (by have := HLn.out; unfold maxLen; omega) (by have := HLn.out; omega) (by have := HL.out.2.1.lt; simp; omega) ?_; intro v' w3 hown3 hgrow _)
        go_meet
        obtain ⟨h1, h2, h3⟩ := row_put HL.out hgrow hown3
        exact ⟨by rw [HE.out, List.length_append, Y.cells_snoc]; exact h1, h2, h3⟩
      · have HE := Lib.hid (show Y.pre c 2 = L by rw [HS.out]; show L ++ [] = L; rw [List.append_nil])
        clear HS hlen
        go_wp2
        go_meet
        exact (by rw [HE.out]; exact HL.out)
    case rest =>
      have HL0 := Lib.hid hcut
      clear HL hcut
      obtain ⟨wk, rfl⟩ : ∃ W : World, W = wc := ⟨_, rfl⟩
      obtain ⟨vk, rfl⟩ : ∃ V : Value, V = u3 := ⟨_, rfl⟩
      go_upto_if 33 with (first | ((with_reducible refine wp_load_box_g rfl _ rfl ?_); refine ⟨_, _, rfl, HL0.out.2.1, ?_⟩) | (go_at_call 36; refine (A2.out _).mono ?_; rintro e wx ⟨rfl, hbx⟩; have HL := Lib.hid (grown_put HL0.out hbx); clear hbx HL0))
      go_cut [3] from 4 (fun s3 wx => wx.ownsRow (w.heap.size + 1) 42 1 s3 (Y.pre c 3).length (Y.cells (Y.pre c 3)) ∧ PosAt wx w.heap.size c ∧ Below w.heap.size w wx)
      case first =>
        have hlen := HLen.out 2
        have HS := Lib.hid HS2.out
        obtain ⟨L, hL⟩ : ∃ L, Y.pre c 2 = L := ⟨_, rfl⟩
        rw [hL] at hlen HL HS
        clear A0 A2 A3 A4 A6 A7 R00 R01 R10 R11 HS1 HS2 HS3 HS4 HS5 HS6 HS7 hL
        cases b2
        · have HE := Lib.hid (show Y.pre c 3 = L ++ [120] from HS.out)
          have hws := HL.out.2.2.size
          have HLn := Lib.hid hlen
          clear HS hlen
          go_wp2_with (at_builtin; refine wpList_append_own _ rfl _ _ 40 rfl (w.heap.size + 1) 42 i0 (.int .i64 0) 1 8 Tryd.underlying40 hi hz0 hz1 hz2 rfl (by decide) _ _ _ rfl (HL.out.1.alloc _) ⟨wx.heap.size, 0, none⟩ 1 1 [.int .i64 120] rfl rfl (cell_one_new _ _ _) (by simp [Value.oneCell']) (by have := HLn.out; unfold maxLen; omega) (by have := HLn.out; omega) (by have := HL.out.2.1.lt; simp; omega) ?_; intro v' w3 hown3 hgrow _)
          go_meet
          obtain ⟨h1, h2, h3⟩ := row_put HL.out hgrow hown3
          exact ⟨by rw [HE.out, List.length_append, Y.cells_snoc]; exact h1, h2, h3⟩
        · have HE := Lib.hid (show Y.pre c 3 = L by rw [HS.out]; show L ++ [] = L; rw [List.append_nil])
          clear HS hlen
          go_wp2
          go_meet
          exact (by rw [HE.out]; exact HL.out)
      case rest =>
        have HL0 := Lib.hid hcut
        clear HL hcut
        obtain ⟨wk, rfl⟩ : ∃ W : World, W = wc := ⟨_, rfl⟩
        obtain ⟨vk, rfl⟩ : ∃ V : Value, V = u3 := ⟨_, rfl⟩
        go_upto_if 39 with (first | ((with_reducible refine wp_load_box_g rfl _ rfl ?_); refine ⟨_, _, rfl, HL0.out.2.1, ?_⟩) | (go_at_call 37; refine (A3.out _).mono ?_; rintro e wx ⟨rfl, hbx⟩; have HL := Lib.hid (grown_put HL0.out hbx); clear hbx HL0))
        go_cut [3] from 4 (fun s3 wx => wx.ownsRow (w.heap.size + 1) 42 1 s3 (Y.pre c 4).length (Y.cells (Y.pre c 4)) ∧ PosAt wx w.heap.size c ∧ Below w.heap.size w wx)
        case first =>
          have hlen := HLen.out 3
          have HS := Lib.hid HS3.out
          obtain ⟨L, hL⟩ : ∃ L, Y.pre c 3 = L := ⟨_, rfl⟩
          rw [hL] at hlen HL HS
          clear A0 A2 A3 A4 A6 A7 R00 R01 R10 R11 HS1 HS2 HS3 HS4 HS5 HS6 HS7 hL
          cases b3
          · have HE := Lib.hid (show Y.pre c 4 = L ++ [121] from HS.out)
            have hws := HL.out.2.2.size
            have HLn := Lib.hid hlen
            clear HS hlen
            go_wp2_with (at_builtin; refine wpList_append_own _ rfl _ _ 40 rfl (w.heap.size + 1) 42 i0 (.int .i64 0) 1 8 Tryd.underlying40 hi hz0 hz1 hz2 rfl (by decide) _ _ _ rfl (HL.out.1.alloc _) ⟨wx.heap.size, 0, none⟩ 1 1 [.int .i64 121] rfl rfl (cell_one_new _ _ _) (by simp [Value.oneCell']) (by have := HLn.out; unfold maxLen; omega) (by have := HLn.out; omega) (by have := HL.out.2.1.lt; simp; omega) ?_; intro v' w3 hown3 hgrow _)
            go_meet
            obtain ⟨h1, h2, h3⟩ := row_put HL.out hgrow hown3
            exact ⟨by rw [HE.out, List.length_append, Y.cells_snoc]; exact h1, h2, h3⟩
          · have HE := Lib.hid (show Y.pre c 4 = L by rw [HS.out]; show L ++ [] = L; rw [List.append_nil])
            clear HS hlen
            go_wp2
            go_meet
            exact (by rw [HE.out]; exact HL.out)
        case rest =>
          have HL0 := Lib.hid hcut
          clear HL hcut
          obtain ⟨wk, rfl⟩ : ∃ W : World, W = wc := ⟨_, rfl⟩
          obtain ⟨vk, rfl⟩ : ∃ V : Value, V = u3 := ⟨_, rfl⟩
          go_upto_if 45 with (first | ((with_reducible refine wp_load_box_g rfl _ rfl ?_); refine ⟨_, _, rfl, HL0.out.2.1, ?_⟩) | (go_at_call 38; refine (A4.out _).mono ?_; rintro e wx ⟨rfl, hbx⟩; have HL := Lib.hid (grown_put HL0.out hbx); clear hbx HL0))
          go_cut [3] from 4 (fun s3 wx => wx.ownsRow (w.heap.size + 1) 42 1 s3 (Y.pre c 5).length (Y.cells (Y.pre c 5)) ∧ PosAt wx w.heap.size c ∧ Below w.heap.size w wx)
          case first =>
            have hlen := HLen.out 4
            have HS := Lib.hid HS4.out
            obtain ⟨L, hL⟩ : ∃ L, Y.pre c 4 = L := ⟨_, rfl⟩
            rw [hL] at hlen HL HS
            clear A0 A2 A3 A4 A6 A7 R00 R01 R10 R11 HS1 HS2 HS3 HS4 HS5 HS6 HS7 hL
            cases b4
            · have HE := Lib.hid (show Y.pre c 5 = L ++ [122] from HS.out)
              have hws := HL.out.2.2.size
              have HLn := Lib.hid hlen
              clear HS hlen
              go_wp2_with (at_builtin; refine wpList_append_own _ rfl _ _ 40 rfl (w.heap.size + 1) 42 i0 (.int .i64 0) 1 8 Tryd.underlying40 hi hz0 hz1 hz2 rfl (by decide) _ _ _ rfl (HL.out.1.alloc _) ⟨wx.heap.size, 0, none⟩ 1 1 [.int .i64 122] rfl rfl (cell_one_new _ _ _) (by simp [Value.oneCell']) (by have := HLn.out; unfold maxLen; omega) (by have := HLn.out; omega) (by have := HL.out.2.1.lt; simp; omega) ?_; intro v' w3 hown3 hgrow _)
              go_meet
              obtain ⟨h1, h2, h3⟩ := row_put HL.out hgrow hown3
              exact ⟨by rw [HE.out, List.length_append, Y.cells_snoc]; exact h1, h2, h3⟩
            · have HE := Lib.hid (show Y.pre c 5 = L by rw [HS.out]; show L ++ [] = L; rw [List.append_nil])
              clear HS hlen
              go_wp2
              go_meet
              exact (by rw [HE.out]; exact HL.out)
          case rest =>
            have HL0 := Lib.hid hcut
            clear HL hcut
            obtain ⟨wk, rfl⟩ : ∃ W : World, W = wc := ⟨_, rfl⟩
            obtain ⟨vk, rfl⟩ : ∃ V : Value, V = u3 := ⟨_, rfl⟩
            go_upto_region 12 with fail
            go_cut [66] from 4 (fun s66 wx => s66 = .bool (!b5) ∧ wx.ownsRow (w.heap.size + 1) 42 1 vk (Y.pre c 5).length (Y.cells (Y.pre c 5)) ∧ PosAt wx w.heap.size c ∧ Below w.heap.size w wx)
            case first =>
              clear A0 A2 A3 A4 A6 A7 HS1 HS2 HS3 HS4 HS5 HS6 HS7 HLen HA HB1
              cases r00
              · have E := Lib.hid (show b5 = false by rw [HR5.out]; simp)
                go_wp2_with (first | (go_at_call 39; (with_reducible refine (R00.out _).mono ?_); rintro e wx1 ⟨rfl, hx1⟩; have HX1 := Lib.hid (grown_put HL0.out hx1); clear hx1) | ((with_reducible refine wp_load_box_g rfl _ rfl ?_); refine ⟨_, _, rfl, HL0.out.2.1, ?_⟩))
                go_meet
                exact ⟨by rw [E.out]; rfl, HX1.out⟩
              cases r01
              · have E := Lib.hid (show b5 = false by rw [HR5.out]; simp)
                go_wp2_with (first | (go_at_call 39; (with_reducible refine (R00.out _).mono ?_); rintro e wx1 ⟨rfl, hx1⟩; have HX1 := Lib.hid (grown_put HL0.out hx1); clear hx1) | (go_at_call 39; (with_reducible refine (R01.out _).mono ?_); rintro e wx2 ⟨rfl, hx2⟩; have HX2 := Lib.hid (grown_put HX1.out hx2); clear hx2) | ((with_reducible refine wp_load_box_g rfl _ rfl ?_); refine ⟨_, _, rfl, HX1.out.2.1, ?_⟩) | ((with_reducible refine wp_load_box_g rfl _ rfl ?_); refine ⟨_, _, rfl, HL0.out.2.1, ?_⟩))
                go_meet
                exact ⟨by rw [E.out]; rfl, HX2.out⟩
              cases r10
              · have E := Lib.hid (show b5 = false by rw [HR5.out]; simp)
                go_wp2_with (first | (go_at_call 39; (with_reducible refine (R00.out _).mono ?_); rintro e wx1 ⟨rfl, hx1⟩; have HX1 := Lib.hid (grown_put HL0.out hx1); clear hx1) | (go_at_call 39; (with_reducible refine (R01.out _).mono ?_); rintro e wx2 ⟨rfl, hx2⟩; have HX2 := Lib.hid (grown_put HX1.out hx2); clear hx2) | (go_at_call 39; (with_reducible refine (R10.out _).mono ?_); rintro e wx3 ⟨rfl, hx3⟩; have HX3 := Lib.hid (grown_put HX2.out hx3); clear hx3) | ((with_reducible refine wp_load_box_g rfl _ rfl ?_); refine ⟨_, _, rfl, HX2.out.2.1, ?_⟩) | ((with_reducible refine wp_load_box_g rfl _ rfl ?_); refine ⟨_, _, rfl, HX1.out.2.1, ?_⟩) | ((with_reducible refine wp_load_box_g rfl _ rfl ?_); refine ⟨_, _, rfl, HL0.out.2.1, ?_⟩))
                go_meet
                exact ⟨by rw [E.out]; rfl, HX3.out⟩
              have E := Lib.hid (show b5 = r11 by rw [HR5.out]; simp)
              go_wp2_with (first | (go_at_call 39; (with_reducible refine (R00.out _).mono ?_); rintro e wx1 ⟨rfl, hx1⟩; have HX1 := Lib.hid (grown_put HL0.out hx1); clear hx1) | (go_at_call 39; (with_reducible refine (R01.out _).mono ?_); rintro e wx2 ⟨rfl, hx2⟩; have HX2 := Lib.hid (grown_put HX1.out hx2); clear hx2) | (go_at_call 39; (with_reducible refine (R10.out _).mono ?_); rintro e wx3 ⟨rfl, hx3⟩; have HX3 := Lib.hid (grown_put HX2.out hx3); clear hx3) | (go_at_call 39; (with_reducible refine (R11.out _).mono ?_); rintro e wx4 ⟨rfl, hx4⟩; have HX4 := Lib.hid (grown_put HX3.out hx4); clear hx4) | ((with_reducible refine wp_load_box_g rfl _ rfl ?_); refine ⟨_, _, rfl, HX3.out.2.1, ?_⟩) | ((with_reducible refine wp_load_box_g rfl _ rfl ?_); refine ⟨_, _, rfl, HX2.out.2.1, ?_⟩) | ((with_reducible refine wp_load_box_g rfl _ rfl ?_); refine ⟨_, _, rfl, HX1.out.2.1, ?_⟩) | ((with_reducible refine wp_load_box_g rfl _ rfl ?_); refine ⟨_, _, rfl, HL0.out.2.1, ?_⟩))
              go_meet
              exact ⟨by rw [E.out], HX4.out⟩
            case rest =>
              obtain ⟨rfl, hcut⟩ := hcut
              have HL := Lib.hid hcut
              clear HL0 hcut
              obtain ⟨wx, rfl⟩ : ∃ W : World, W = wc := ⟨_, rfl⟩
              go_upto_if 66 with fail
              go_cut [3] from 4 (fun s3 wx => wx.ownsRow (w.heap.size + 1) 42 1 s3 (Y.pre c 6).length (Y.cells (Y.pre c 6)) ∧ PosAt wx w.heap.size c ∧ Below w.heap.size w wx)
              case first =>
                have hlen := HLen.out 5
                have HS := Lib.hid HS5.out
                obtain ⟨L, hL⟩ : ∃ L, Y.pre c 5 = L := ⟨_, rfl⟩
                rw [hL] at hlen HL HS
                clear A0 A2 A3 A4 A6 A7 R00 R01 R10 R11 HS1 HS2 HS3 HS4 HS5 HS6 HS7 hL
                cases b5
                · have HE := Lib.hid (show Y.pre c 6 = L ++ [123] from HS.out)
                  have hws := HL.out.2.2.size
                  have HLn := Lib.hid hlen
                  clear HS hlen
                  go_wp2_with (at_builtin; refine wpList_append_own _ rfl _ _ 40 rfl (w.heap.size + 1) 42 i0 (.int .i64 0) 1 8 Tryd.underlying40 hi hz0 hz1 hz2 rfl (by decide) _ _ _ rfl (HL.out.1.alloc _) ⟨wx.heap.size, 0, none⟩ 1 1 [.int .i64 123] rfl rfl (cell_one_new _ _ _) (by simp [Value.oneCell']) (by have := HLn.out; unfold maxLen; omega) (by have := HLn.out; omega) (by have := HL.out.2.1.lt; simp; omega) ?_; intro v' w3 hown3 hgrow _)
                  go_meet
                  obtain ⟨h1, h2, h3⟩ := row_put HL.out hgrow hown3
                  exact ⟨by rw [HE.out, List.length_append, Y.cells_snoc]; exact h1, h2, h3⟩
                · have HE := Lib.hid (show Y.pre c 6 = L by rw [HS.out]; show L ++ [] = L; rw [List.append_nil])
                  clear HS hlen
                  go_wp2
                  go_meet
                  exact (by rw [HE.out]; exact HL.out)
              case rest =>
                have HL0 := Lib.hid hcut
                clear HL hcut
                obtain ⟨wk, rfl⟩ : ∃ W : World, W = wc := ⟨_, rfl⟩
                obtain ⟨vk, rfl⟩ : ∃ V : Value, V = u3 := ⟨_, rfl⟩
                go_upto_if 72 with (first | ((with_reducible refine wp_load_box_g rfl _ rfl ?_); refine ⟨_, _, rfl, HL0.out.2.1, ?_⟩) | (go_at_call 40; refine (A6.out _).mono ?_; rintro e wx ⟨rfl, hbx⟩; have HL := Lib.hid (grown_put HL0.out hbx); clear hbx HL0))
                go_cut [3] from 4 (fun s3 wx => wx.ownsRow (w.heap.size + 1) 42 1 s3 (Y.pre c 7).length (Y.cells (Y.pre c 7)) ∧ PosAt wx w.heap.size c ∧ Below w.heap.size w wx)
                case first =>
                  have hlen := HLen.out 6
                  have HS := Lib.hid HS6.out
                  obtain ⟨L, hL⟩ : ∃ L, Y.pre c 6 = L := ⟨_, rfl⟩
                  rw [hL] at hlen HL HS
                  clear A0 A2 A3 A4 A6 A7 R00 R01 R10 R11 HS1 HS2 HS3 HS4 HS5 HS6 HS7 hL
                  cases b6
                  · have HE := Lib.hid (show Y.pre c 7 = L ++ [124] from HS.out)
                    have hws := HL.out.2.2.size
                    have HLn := Lib.hid hlen
                    clear HS hlen
                    go_wp2_with (at_builtin; refine wpList_append_own _ rfl _ _ 40 rfl (w.heap.size + 1) 42 i0 (.int .i64 0) 1 8 Tryd.underlying40 hi hz0 hz1 hz2 rfl (by decide) _ _ _ rfl (HL.out.1.alloc _) ⟨wx.heap.size, 0, none⟩ 1 1 [.int .i64 124] rfl rfl (cell_one_new _ _ _) (by simp [Value.oneCell']) (by have := HLn.out; unfold maxLen; omega) (by have := HLn.out; omega) (by have := HL.out.2.1.lt; simp; omega) ?_; intro v' w3 hown3 hgrow _)
                    go_meet
                    obtain ⟨h1, h2, h3⟩ := row_put HL.out hgrow hown3
                    exact ⟨by rw [HE.out, List.length_append, Y.cells_snoc]; exact h1, h2, h3⟩
                  · have HE := Lib.hid (show Y.pre c 7 = L by rw [HS.out]; show L ++ [] = L; rw [List.append_nil])
                    clear HS hlen
                    go_wp2
                    go_meet
                    exact (by rw [HE.out]; exact HL.out)
                case rest =>
                  have HL0 := Lib.hid hcut
                  clear HL hcut
                  obtain ⟨wk, rfl⟩ : ∃ W : World, W = wc := ⟨_, rfl⟩
                  obtain ⟨vk, rfl⟩ : ∃ V : Value, V = u3 := ⟨_, rfl⟩
                  go_upto_if 78 with (first | ((with_reducible refine wp_load_box_g rfl _ rfl ?_); refine ⟨_, _, rfl, HL0.out.2.1, ?_⟩) | (go_at_call 41; refine (A7.out _).mono ?_; rintro e wx ⟨rfl, hbx⟩; have HL := Lib.hid (grown_put HL0.out hbx); clear hbx HL0))
                  go_cut [3] from 4 (fun s3 wx => wx.ownsRow (w.heap.size + 1) 42 1 s3 (Y.pre c 8).length (Y.cells (Y.pre c 8)) ∧ PosAt wx w.heap.size c ∧ Below w.heap.size w wx)
                  case first =>
                    have hlen := HLen.out 7
                    have HS := Lib.hid HS7.out
                    obtain ⟨L, hL⟩ : ∃ L, Y.pre c 7 = L := ⟨_, rfl⟩
                    rw [hL] at hlen HL HS
                    clear A0 A2 A3 A4 A6 A7 R00 R01 R10 R11 HS1 HS2 HS3 HS4 HS5 HS6 HS7 hL
                    cases b7
                    · have HE := Lib.hid (show Y.pre c 8 = L ++ [126] from HS.out)
                      have hws := HL.out.2.2.size
                      have HLn := Lib.hid hlen
                      clear HS hlen
                      go_wp2_with (at_builtin; refine wpList_append_own _ rfl _ _ 40 rfl (w.heap.size + 1) 42 i0 (.int .i64 0) 1 8 Tryd.underlying40 hi hz0 hz1 hz2 rfl (by decide) _ _ _ rfl (HL.out.1.alloc _) ⟨wx.heap.size, 0, none⟩ 1 1 [.int .i64 126] rfl rfl (cell_one_new _ _ _) (by simp [Value.oneCell']) (by have := HLn.out; unfold maxLen; omega) (by have := HLn.out; omega) (by have := HL.out.2.1.lt; simp; omega) ?_; intro v' w3 hown3 hgrow _)
                      go_meet
                      obtain ⟨h1, h2, h3⟩ := row_put HL.out hgrow hown3
                      exact ⟨by rw [HE.out, List.length_append, Y.cells_snoc]; exact h1, h2, h3⟩
                    · have HE := Lib.hid (show Y.pre c 8 = L by rw [HS.out]; show L ++ [] = L; rw [List.append_nil])
                      clear HS hlen
                      go_wp2
                      go_meet
                      exact (by rw [HE.out]; exact HL.out)
                  case rest =>
                    have HL0 := Lib.hid hcut
                    clear HL hcut
                    obtain ⟨wk, rfl⟩ : ∃ W : World, W = wc := ⟨_, rfl⟩
                    obtain ⟨vk, rfl⟩ : ∃ V : Value, V = u3 := ⟨_, rfl⟩
                    go_wp2
                    go_ret
                    exact ⟨_, rfl, by rw [HA.out]; exact Y.owns_low HL0.out.1 (by omega), HL0.out.2.2⟩
set_option maxRecDepth 100000 in
set_option maxHeartbeats 4000000 in
theorem d12all_arg (c : Nat → Int) (w : World) (hc : PosOk c) (hpl : Y.plain c = false) :
    Calls Tryd.prog 18 #[.agg (posC c)] w (Y.End (Y.all c) w) := by
  have A0 : Hid (∀ w, Calls Tryd.prog 35 #[.agg (posC c)] w fun e w' => e = .returned (.bool false) ∧ Below w.heap.size w w') := Lib.hid (fun w => by rw [← hpl]; exact d12plain_any c w hc)
  have HE := Lib.hid (Y.all_arg c hpl)
  clear hc hpl
  have hp := PosAt.new w c
  have hb0 : Below w.heap.size w (w.alloc (.cells (posC c) 31)) := (Below.refl _ _).alloc (Nat.le_refl _) _
  have HW := Lib.hid (And.intro hp hb0)
  clear hp hb0
  obtain ⟨i0, hi, hz0, hz1, hz2⟩ := info_parts Tryd.info_Err
  go_enter Tryd.func18, Tryd.ntmps18
  go_wp2_with (first
    | ((with_reducible refine wp_load_box_g rfl _ rfl ?_); refine ⟨_, _, rfl, HW.out.1, ?_⟩)
    | (go_at_call 35; refine (A0.out _).mono ?_; rintro e w2 ⟨rfl, hb2⟩; have HL := Lib.hid (grown_put ⟨World.ownsRow_nil _ (w.heap.size + 1) 42 1, HW.out.1, HW.out.2⟩ hb2); clear hb2)
    | (at_builtin; refine wpList_append_own _ rfl _ _ 40 rfl (w.heap.size + 1) 42 i0 (.int .i64 0) 1 8 Tryd.underlying40 hi hz0 hz1 hz2 rfl (by decide) _ _ _ rfl (HL.out.1.alloc _) ⟨w2.heap.size, 0, none⟩ 1 1 [.int .i64 2] rfl rfl (cell_one_new _ _ _) (by simp [Value.oneCell']) (by unfold maxLen; omega) (by omega) (by have := HL.out.2.1.lt; simp; omega) ?_; intro v' w3 hown3 hgrow _))
  go_ret
  obtain ⟨h1, h2, h3⟩ := row_put HL.out hgrow hown3
  exact ⟨_, rfl, by rw [HE.out]; exact Y.owns_low h1 (by omega), h3⟩
theorem d12all_any (c : Nat → Int) (w : World) (hc : PosOk c) : Calls Tryd.prog 18 #[.agg (posC c)] w (Y.End (Y.all c) w) := by
  cases hpl : Y.plain c
  · exact d12all_arg c w hc hpl
  · exact d12all_plain c w hc hpl
end Go.Proofs.YtlphjjekamhnlaaDoor
