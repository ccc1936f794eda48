/- The document's answer of layer 13: There, Empty, Own, Up, Rank. -/
import Derived.Test.YtlphjjekamhnlaaDoorMay
namespace Go.Proofs.YtlphjjekamhnlaaDoor
open Go.RowKit Go.Sort

set_option maxRecDepth 100000 in
set_option maxHeartbeats 1000000 in
theorem d13there_any (c : Nat → Int) (w : World) : Calls Tryd.prog 27 #[.agg (posC c)] w fun e w' => e = .returned (.bool (Z.ok c)) ∧ Below w.heap.size w w' := by
  have hp := PosAt.new w c
  have h0 := hp.cell (i := 0) (by decide)
  have h78 := hp.cell (i := 78) (by decide)
  rw [show pk 0 = .u8 from rfl] at h0
  rw [show pk 78 = .u8 from rfl] at h78
  have hb0 : Below w.heap.size w (w.alloc (.cells (posC c) 31)) := (Below.refl _ _).alloc (Nat.le_refl _) _
  have e := Lib.hid (show Z.ok c = (decide (c 0 < 9) && decide (c 78 < 2)) by
    unfold Z.ok
    rw [Bool.eq_iff_iff]
    simp
    omega)
  clear hp
  by_cases h9 : c 0 < 9
  · go_enter Tryd.func27, Tryd.ntmps27
    go_wp2
    go_ret
    exact ⟨ret_bool (by rw [e.out, decide_eq_true h9]; rfl), hb0⟩
  · go_enter Tryd.func27, Tryd.ntmps27
    go_wp2
    go_ret
    exact ⟨ret_bool (by rw [e.out, decide_eq_false (show ¬ c 0 < 9 by omega)]; rfl), hb0⟩
theorem d13there_eq (c : Nat → Int) (b : Bool) (w : World) (h : Z.ok c = b) : Calls Tryd.prog 27 #[.agg (posC c)] w fun e w' => e = .returned (.bool b) ∧ Below w.heap.size w w' := by
  rw [← h]; exact d13there_any c w

set_option maxRecDepth 100000 in
set_option maxHeartbeats 1000000 in
theorem d13empty_any (c : Nat → Int) (s : Nat) (w : World) (hc : BdOk c) (hs : s < 64) :
    Calls Tryd.prog 59 #[.agg (posC c), .int .i64 (s : Int)] w fun e w' => e = .returned (.bool (D.empty c s)) ∧ Below w.heap.size w w' := by
  obtain ⟨h0, h1⟩ := hc s hs
  clear hc
  have hcl := bd_cell (heap_alloc_new w (.cells (posC c) 31)) s hs
  have e := Lib.hid (show D.empty c s = (P.kind (c (1 + s)) == 0) from rfl)
  go_enter Tryd.func59, Tryd.ntmps59
  go_wp2_with (go_at_call 29; refine (d8kind_any _ _ h0 h1).mono ?_; rintro e w' ⟨rfl, rfl⟩)
  go_ret
  exact ⟨ret_bool e.out.symm, (Below.refl _ _).alloc (Nat.le_refl _) _⟩
theorem d13empty_eq (c : Nat → Int) (s : Nat) (T : Int) (b : Bool) (w : World) (hc : BdOk c) (hs : s < 64) (hT : T = (s : Int)) (h : D.empty c s = b) :
    Calls Tryd.prog 59 #[.agg (posC c), .int .i64 T] w fun e w' => e = .returned (.bool b) ∧ Below w.heap.size w w' := by
  rw [← h, hT]; exact d13empty_any c s w hc hs

set_option maxRecDepth 100000 in
set_option maxHeartbeats 1000000 in
theorem d13own_any (c : Nat → Int) (s : Nat) (t : Int) (w : World) (hc : BdOk c) (hs : s < 64) :
    Calls Tryd.prog 56 #[.agg (posC c), .int .i64 (s : Int), .int .u8 t] w fun e w' => e = .returned (.bool (D.own c s t)) ∧ Below w.heap.size w w' := by
  obtain ⟨h0, h1⟩ := hc s hs
  have Hc := Lib.hid hc
  clear hc
  have hp := PosAt.new w c
  have hcl := bd_cell hp.heap s hs
  have hb0 : Below w.heap.size w (w.alloc (.cells (posC c) 31)) := (Below.refl _ _).alloc (Nat.le_refl _) _
  obtain ⟨W, hW⟩ : ∃ W, w.alloc (.cells (posC c) 31) = W := ⟨_, rfl⟩
  rw [hW] at hp hcl hb0
  have HB := Lib.hid hb0
  have HP := Lib.hid hp
  clear hb0
  cases he : D.empty c s
  · have e := Lib.hid (show D.own c s t = (D.color (c (1 + s)) == t) by unfold D.own; rw [he]; rfl)
    have HE := Lib.hid he
    clear he hp
    go_enter Tryd.func56, Tryd.ntmps56
    go_wp2_with (first
      | ((with_reducible refine wp_load_box rfl _ rfl ?_); refine ⟨_, _, rfl, HP.out, ?_⟩)
      | (go_at_call 59; refine (d13empty_eq c s _ _ _ Hc.out hs rfl HE.out).mono ?_; rintro e w1 ⟨rfl, hb1⟩; have hcl1 := bd_cell (HP.out.below hb1).heap s hs)
      | (go_at_call 93; refine (d8color_any _ _ h0 h1).mono ?_; rintro e w' ⟨rfl, rfl⟩))
    go_ret
    exact ⟨ret_bool e.out.symm, below_next HB.out hb1⟩
  · have e := Lib.hid (show D.own c s t = false by unfold D.own; rw [he]; rfl)
    have HE := Lib.hid he
    clear he hp
    go_enter Tryd.func56, Tryd.ntmps56
    go_wp2_with (first
      | ((with_reducible refine wp_load_box rfl _ rfl ?_); refine ⟨_, _, rfl, HP.out, ?_⟩)
      | (go_at_call 59; refine (d13empty_eq c s _ _ _ Hc.out hs rfl HE.out).mono ?_; rintro e w1 ⟨rfl, hb1⟩; have hcl1 := bd_cell (HP.out.below hb1).heap s hs))
    go_ret
    exact ⟨ret_bool e.out.symm, below_next HB.out hb1⟩
theorem d13own_eq (c : Nat → Int) (s : Nat) (t T : Int) (b : Bool) (w : World) (hc : BdOk c) (hs : s < 64) (hT : T = t) (h : D.own c s t = b) :
    Calls Tryd.prog 56 #[.agg (posC c), .int .i64 (s : Int), .int .u8 T] w fun e w' => e = .returned (.bool b) ∧ Below w.heap.size w w' := by
  rw [← h, hT]; exact d13own_any c s t w hc hs
set_option maxRecDepth 100000 in
theorem d13up_any (t : Nat) (w : World) (ht : t ≤ 1) : Calls Tryd.prog 94 #[.int .u8 (t : Int)] w fun e w' => e = .returned (.int .i64 (D.up1 t)) ∧ w = w' := by
  rcases (show t = 0 ∨ t = 1 by omega) with rfl | rfl
  all_goals
    go_enter Tryd.func94, Tryd.ntmps94
    go_wp2
    go_ret
    exact ⟨rfl, rfl⟩
set_option maxRecDepth 100000 in
theorem d13rank_any (t s : Nat) (w : World) (ht : t ≤ 1) (hs : s < 64) : Calls Tryd.prog 30 #[.int .u8 (t : Int), .int .i64 (s : Int)] w fun e w' => e = .returned (.int .i64 (Z.rank t s : Nat)) ∧ w = w' := by
  have h8 := tdiv8 s
  rcases (show t = 0 ∨ t = 1 by omega) with rfl | rfl
  · go_enter Tryd.func30, Tryd.ntmps30
    go_wp2
    go_ret
    exact ⟨ret_int (by unfold Z.rank; simp), rfl⟩
  · go_enter Tryd.func30, Tryd.ntmps30
    go_wp2
    go_ret
    exact ⟨ret_int (by unfold Z.rank; simp; omega), rfl⟩
end Go.Proofs.YtlphjjekamhnlaaDoor
