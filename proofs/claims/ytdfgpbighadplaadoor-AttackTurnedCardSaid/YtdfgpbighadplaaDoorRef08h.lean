/- The document's answer of layer 8: Hits of a knight and of a pawn. (Printed by wip/hits.py.) -/
import Derived.Test.YtdfgpbighadplaaDoorRef08g
namespace Go.Proofs.YtdfgpbighadplaaDoor
open Go.RowKit Go.Sort

set_option maxRecDepth 100000 in
set_option maxHeartbeats 4000000 in
theorem d8hits_knight (c : Nat → Int) (a b : Nat) (w : World) (hc : BdOk c) (ha : a < 64) (hb : b < 64) (hk : P.kind (c (1 + a)) = 2) :
    Calls Tryd.prog 24 #[.agg (posC c), .int .i64 (a : Int), .int .i64 (b : Int)] w fun e w' => e = .returned (.bool (D.hits c a b)) ∧ Below w.heap.size w w' := by
  have q1 := tdiv8 a
  have q2 := tdiv8 b
  have q3 := tmod8 a
  have q4 := tmod8 b
  obtain ⟨h0, h1⟩ := hc a ha
  have Hc := Lib.hid hc
  clear hc
  have HW := Lib.hid (heap_alloc_new w (.cells (posC c) 31))
  have hcl := bd_cell HW.out a ha
  have has := abs8_bd ((b : Int) % 8 - (a : Int) % 8) (by omega) (by omega)
  have e : D.hits c a b = (((D.abs ((b : Int) / 8 - (a : Int) / 8) == 1) && ((D.abs ((b : Int) % 8 - (a : Int) % 8)) == 2)) || ((D.abs ((b : Int) / 8 - (a : Int) / 8) == 2) && ((D.abs ((b : Int) % 8 - (a : Int) % 8)) == 1))) := by unfold D.hits; rw [hk]; rfl
  cases g1 : (D.abs ((b : Int) / 8 - (a : Int) / 8) == 1) <;> cases g2 : ((D.abs ((b : Int) % 8 - (a : Int) % 8)) == 2) <;> cases g3 : (D.abs ((b : Int) / 8 - (a : Int) / 8) == 2) <;> cases g4 : ((D.abs ((b : Int) % 8 - (a : Int) % 8)) == 1) <;> cases hx : (D.abs ((b : Int) / 8 - (a : Int) / 8) == (D.abs ((b : Int) % 8 - (a : Int) % 8)))
  all_goals
    first
    | (exfalso; rw [beq_iff_eq] at g1 g3; omega)
    | (exfalso; rw [beq_iff_eq] at g2 g4; omega)
    | (exfalso; rw [beq_iff_eq] at g1 g4; rw [beq_eq_false_iff_ne] at hx; omega)
    | (exfalso; rw [beq_iff_eq] at g3 g2; rw [beq_eq_false_iff_ne] at hx; omega)
    | (exfalso; rw [beq_iff_eq] at g1 g2 hx; omega)
    | (exfalso; rw [beq_iff_eq] at g3 g4 hx; omega)
    | (
      rw [g1, g2, g3, g4] at e
      replace e := Lib.hid e
      go_enter Tryd.func24, Tryd.ntmps24
      go_wp2_with (first
        | (go_at_call 34; refine (d8abs_any _ _ (by omega) (by omega)).mono ?_; rintro e w' ⟨rfl, rfl⟩)
        | (go_at_call 22; refine (d8kind_eq _ _ _ h0 h1 hk).mono ?_; rintro e w' ⟨rfl, rfl⟩)
        | ((with_reducible refine wp_load_pos_g rfl _ rfl c ?_ ?_); · (exact ⟨_, _, _, rfl, HW.out⟩))
  )
      go_ret
      first
        | exact ⟨ret_bool (by rw [e.out] <;> rfl), (Below.refl _ _).alloc (Nat.le_refl _) _⟩
        | exact ⟨ret_bool (by rw [e.out] <;> rfl), ((Below.refl _ _).alloc (Nat.le_refl _) _).trans (hb1.mono (by simp))⟩)

set_option maxRecDepth 100000 in
set_option maxHeartbeats 4000000 in
theorem d8hits_pawn (c : Nat → Int) (a b : Nat) (w : World) (hc : BdOk c) (ha : a < 64) (hb : b < 64) (hk : P.kind (c (1 + a)) = 1) :
    Calls Tryd.prog 24 #[.agg (posC c), .int .i64 (a : Int), .int .i64 (b : Int)] w fun e w' => e = .returned (.bool (D.hits c a b)) ∧ Below w.heap.size w w' := by
  have q1 := tdiv8 a
  have q2 := tdiv8 b
  have q3 := tmod8 a
  have q4 := tmod8 b
  obtain ⟨h0, h1⟩ := hc a ha
  have Hc := Lib.hid hc
  clear hc
  have HW := Lib.hid (heap_alloc_new w (.cells (posC c) 31))
  have hcl := bd_cell HW.out a ha
  have has := abs8_bd ((b : Int) % 8 - (a : Int) % 8) (by omega) (by omega)
  have e : D.hits c a b = (if (D.color (c (1 + a)) == 0) = true then (((b : Int) / 8 - (a : Int) / 8) == 1) && ((D.abs ((b : Int) % 8 - (a : Int) % 8)) == 1) else (((b : Int) / 8 - (a : Int) / 8) == -1) && ((D.abs ((b : Int) % 8 - (a : Int) % 8)) == 1)) := by unfold D.hits; rw [hk]; simp only [beq_iff_eq]; rfl
  cases gc : (D.color (c (1 + a)) == 0) <;> cases g1 : (((b : Int) / 8 - (a : Int) / 8) == 1) <;> cases g3 : (((b : Int) / 8 - (a : Int) / 8) == -1) <;> cases g4 : ((D.abs ((b : Int) % 8 - (a : Int) % 8)) == 1) <;> cases hx : (D.abs ((b : Int) / 8 - (a : Int) / 8) == (D.abs ((b : Int) % 8 - (a : Int) % 8)))
  all_goals
    first
    | (exfalso; rw [beq_iff_eq] at g1 g3; omega)
    | (
      rw [gc, g1, g3, g4] at e
      replace e := Lib.hid e
      go_enter Tryd.func24, Tryd.ntmps24
      go_wp2_with (first
        | (go_at_call 34; refine (d8abs_any _ _ (by omega) (by omega)).mono ?_; rintro e w' ⟨rfl, rfl⟩)
        | (go_at_call 22; refine (d8kind_eq _ _ _ h0 h1 hk).mono ?_; rintro e w' ⟨rfl, rfl⟩)
        | ((with_reducible refine wp_load_pos_g rfl _ rfl c ?_ ?_); · (exact ⟨_, _, _, rfl, HW.out⟩))
        | (go_at_call 23; refine (d8color_any _ _ h0 h1).mono ?_; rintro e w' ⟨rfl, rfl⟩))
      go_ret
      first
        | exact ⟨ret_bool (by rw [e.out] <;> rfl), (Below.refl _ _).alloc (Nat.le_refl _) _⟩
        | exact ⟨ret_bool (by rw [e.out] <;> rfl), ((Below.refl _ _).alloc (Nat.le_refl _) _).trans (hb1.mono (by simp))⟩)

end Go.Proofs.YtdfgpbighadplaaDoor
