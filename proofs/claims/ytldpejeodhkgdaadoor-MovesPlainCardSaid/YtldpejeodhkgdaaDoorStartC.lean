/- The program's package rules: first positions: Start of a variant with a home rank. -/
import Derived.Test.YtldpejeodhkgdaaDoorStartB
namespace Go.Proofs.YtldpejeodhkgdaaDoor
open Go.RowKit Go.Sort
attribute [local go_sem] Oper.semAt_some

namespace V
def home : Nat → Int
  | 0 => 4 | 1 => 2 | 2 => 3 | 3 => 5 | 4 => 6 | 5 => 3 | 6 => 2 | 7 => 4 | _ => 0
/-- A first position with home ranks. -/
def start (v : Int) : Nat → Int := bothTo v home 8
end V
set_option maxRecDepth 100000 in
set_option maxHeartbeats 4000000 in
theorem start_any (v : Nat) (w : World) (hv : v < 7) : Calls Tryd.prog 27 #[.int .u8 (v : Int)] w fun e w' => e = .returned (.tuple #[.agg (posC (V.start v)), .bool true]) ∧ Below w.heap.size w w' := by
  have hz := heap_alloc_new w (.cells Tryd.zeroCells31 31)
  have hb0 : Below w.heap.size w (w.alloc (.cells Tryd.zeroCells31 31)) := (Below.refl _ _).alloc (Nat.le_refl _) _
  obtain ⟨W, hW⟩ : ∃ W, w.alloc (.cells Tryd.zeroCells31 31) = W := ⟨_, rfl⟩
  rw [hW] at hz hb0
  have hs : W.heap.size = w.heap.size + 1 := by rw [← hW]; simp
  have d9 : decide ((9 : Int) ≤ (v : Int)) = false := by simp; omega
  have d7 : ((v : Int) == 7) = false := by simp; omega
  have d8 : ((v : Int) == 8) = false := by simp; omega
  have HB : Hid (∀ w T, T = (v : Int) → Calls Tryd.prog 50 #[.int .u8 T, .agg #[.int .u8 4, .int .u8 2, .int .u8 3, .int .u8 5, .int .u8 6, .int .u8 3, .int .u8 2, .int .u8 4]] w fun e w' => e = .returned (.agg (posC (V.start v))) ∧ Below w.heap.size w w') :=
    Lib.hid (fun w T h => by rw [h]; exact both_any v V.home w (by decide))
  have HZ := Lib.hid (And.intro hz hb0)
  clear hz hb0 hv
  go_enter Tryd.func27, Tryd.ntmps27
  go_wp2_with (first
    | (go_at_call 51; refine (chess_any _).mono ?_; rintro e w1 ⟨rfl, hb1⟩)
    | (go_at_call 50; refine (HB.out _ _ (by first | rfl | omega)).mono ?_; rintro e w2 ⟨rfl, hb2⟩)
    | ((with_reducible refine wp_store_box rfl _ _ rfl ?_); refine ⟨w.heap.size, _, rfl, rfl, ⟨_, (hb2.block _ (by have := hb1.size; omega)).trans ((hb1.block _ (by omega)).trans HZ.out.1), (by kernel_rfl)⟩, ?_⟩; intro W3 hP3 hq3))
  exact bodyPost_ret (v := .tuple #[.agg (posC (V.start v)), .bool true]) (results_row_tmp Tryd.results27 _ _ w.heap.size 31 _ (0, 0) _ rfl hq3.heap Tryd.underlying31 rfl (posC_info _)) rfl ⟨rfl, hP3.below (below_next (below_next HZ.out.2 hb1) hb2) (Nat.le_refl _)⟩
end Go.Proofs.YtldpejeodhkgdaaDoor
