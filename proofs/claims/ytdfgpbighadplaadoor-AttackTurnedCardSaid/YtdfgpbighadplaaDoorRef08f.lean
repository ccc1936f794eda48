/- The document's answer of layer 8: Hits. -/
import Derived.Test.YtdfgpbighadplaaDoorRef08e
namespace Go.Proofs.YtdfgpbighadplaaDoor
open Go.RowKit Go.Sort

theorem abs8_bd (n : Int) (h0 : -64 ≤ n) (h1 : n ≤ 64) : 0 ≤ D.abs n ∧ D.abs n ≤ 64 := by unfold D.abs; split <;> omega

set_option maxRecDepth 100000 in
set_option maxHeartbeats 2000000 in
theorem d8hits_rook (c : Nat → Int) (a b : Nat) (w : World) (hc : BdOk c) (ha : a < 64) (hb : b < 64) (hk : P.kind (c (1 + a)) = 4) :
    Calls Tryd.prog 24 #[.agg (posC c), .int .i64 (a : Int), .int .i64 (b : Int)] w fun e w' => e = .returned (.bool (D.hits c a b)) ∧ Below w.heap.size w w' := by
  have q1 := tdiv8 a
  have q2 := tdiv8 b
  have q3 := tmod8 a
  have q4 := tmod8 b
  obtain ⟨h0, h1⟩ := hc a ha
  have Hc := Lib.hid hc
  clear hc
  have HW := Lib.hid (heap_alloc_new w (.cells (posC c) 31))
  have hcl := bd_cell HW.out a ha
  have has := abs8_bd ((b : Int) % 8 - (a : Int) % 8) (by omega) (by omega)
  have e : D.hits c a b = (((((b : Int) / 8 - (a : Int) / 8) == 0) != ((D.abs ((b : Int) % 8 - (a : Int) % 8)) == 0)) && D.clr c a b) := by unfold D.hits; rw [hk]; rfl
  cases hx : (D.abs ((b : Int) / 8 - (a : Int) / 8) == (D.abs ((b : Int) % 8 - (a : Int) % 8))) <;> cases hu : (((b : Int) / 8 - (a : Int) / 8) == 0) <;> cases hv : ((D.abs ((b : Int) % 8 - (a : Int) % 8)) == 0)
  all_goals
    rw [hu, hv] at e
    replace e := Lib.hid e
    have hl : Hid (D.straight a b = true → (D.straight a b || D.across a b) = true) := Lib.hid (fun h => by rw [h, Bool.true_or])
    go_enter Tryd.func24, Tryd.ntmps24
    go_wp2_with (first
      | (go_at_call 34; refine (d8abs_any _ _ (by omega) (by omega)).mono ?_; rintro e w' ⟨rfl, rfl⟩)
      | (go_at_call 22; refine (d8kind_eq _ _ _ h0 h1 hk).mono ?_; rintro e w' ⟨rfl, rfl⟩)
      | ((with_reducible refine wp_load_pos_g rfl _ rfl c ?_ ?_); · (exact ⟨_, _, _, rfl, HW.out⟩))
      | (go_at_call 36; refine (d8clr_any c a b _ Hc.out ha hb (hl.out (by unfold D.straight D.up D.aside; rw [hu, hv]; rfl))).mono ?_; rintro e w1 ⟨rfl, hb1⟩))
    go_ret
    first
      | exact ⟨ret_bool (by rw [e.out]; rfl), (Below.refl _ _).alloc (Nat.le_refl _) _⟩
      | exact ⟨ret_bool (by rw [e.out]; rfl), ((Below.refl _ _).alloc (Nat.le_refl _) _).trans (hb1.mono (by simp))⟩

end Go.Proofs.YtdfgpbighadplaaDoor
