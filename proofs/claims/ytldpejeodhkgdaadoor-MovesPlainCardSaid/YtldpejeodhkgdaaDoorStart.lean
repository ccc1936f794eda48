/- The program's package rules: first positions: chess, none, black, both, Start. -/
import Derived.Test.YtldpejeodhkgdaaDoorSt0
namespace Go.Proofs.YtldpejeodhkgdaaDoor
open Go.RowKit Go.Sort
attribute [local go_sem] Oper.semAt_some

set_option maxRecDepth 100000 in
theorem chess_any (w : World) : Calls Tryd.prog 51 #[] w fun e w' => e = .returned (.agg #[.int .u8 4, .int .u8 2, .int .u8 3, .int .u8 5, .int .u8 6, .int .u8 3, .int .u8 2, .int .u8 4]) ∧ Below w.heap.size w w' := by
  go_enter Tryd.func51, Tryd.ntmps51
  go_wp2
  have hR := RowAt.new w #[.int .u8 4, .int .u8 2, .int .u8 3, .int .u8 5, .int .u8 6, .int .u8 3, .int .u8 2, .int .u8 4] 77
  exact bodyPost_ret (v := .agg #[.int .u8 4, .int .u8 2, .int .u8 3, .int .u8 5, .int .u8 6, .int .u8 3, .int .u8 2, .int .u8 4]) (results_cell_row Tryd.results51 _ _ w.heap.size 77 _ (0, 0) _ rfl hR.heap Tryd.underlying77 rfl (by kernel_rfl)) rfl ⟨rfl, (Below.refl _ _).alloc (Nat.le_refl _) _⟩
set_option maxRecDepth 100000 in
theorem black_any (k : Int) (w : World) (h0 : 0 ≤ k) (h1 : k ≤ 6) : Calls Tryd.prog 66 #[.int .u8 k] w fun e w' => e = .returned (.int .u8 (8 + k)) ∧ w = w' := by
  have hw : IntKind.u8.wrap (8 + k) = 8 + k := by rw [IntKind.wrap_u8]; omega
  go_enter Tryd.func66, Tryd.ntmps66
  go_wp2
  go_ret
  exact ⟨rfl, rfl⟩
namespace V
def castles (v : Int) : Bool := decide (v < 9) && (v != 4 && v != 8)
/-- A position of a variant without pieces. -/
def none' (v : Int) : Nat → Int := fun i => if i = 0 then v else if i = 79 then -1 else if i = 80 then -1 else if i = 81 then -1 else if i = 82 then -1 else if i = 83 then -1 else if i = 87 then 1 else 0
/-- A file of the home ranks, put on. -/
def file (c : Nat → Int) (n : Nat) (k : Int) : Nat → Int := upd (upd (upd (upd c (1 + n) k) (9 + n) 1) (57 + n) (8 + k)) (49 + n) 9
def rooks (c : Nat → Int) (n : Nat) : Nat → Int := if c 80 < 0 then upd (upd c 80 n) 82 n else upd (upd c 79 n) 81 n
def bothTo (v : Int) (l : Nat → Int) : Nat → Nat → Int
  | 0 => none' v
  | n + 1 => if castles v = true ∧ l n = 4 then rooks (file (bothTo v l n) n (l n)) n else file (bothTo v l n) n (l n)
end V
theorem Tryd.none_cells (v : Int) : Tryd.prog.built 31 [(0, .int .u8 v), (6, .int .i8 (-1)), (9, .int .i64 1), (5, .agg #[.int .i8 (-1), .int .i8 (-1), .int .i8 (-1), .int .i8 (-1)])] = some (posC (V.none' v)) := by kernel_rfl
set_option maxRecDepth 100000 in
set_option maxHeartbeats 1000000 in
theorem rcastles_any (v : Nat) (w : World) :
    Calls Tryd.prog 67 #[.int .u8 (v : Int)] w fun e w' => e = .returned (.bool (V.castles v)) ∧ Below w.heap.size w w' := by
  have hv : ∃ s a b c d e l, V.of v = #[.string s, .bool a, .bool b, .bool c, .bool d, .bool e, .int .u8 l] ∧ V.castles v = c := by
    by_cases h9 : v < 9
    · match v, h9 with
      | 0, _ | 1, _ | 2, _ | 3, _ | 4, _ | 5, _ | 6, _ | 7, _ | 8, _ => exact ⟨_, _, _, _, _, _, _, rfl, rfl⟩
    · refine ⟨_, _, _, _, _, _, _, (by unfold V.of; split <;> first | omega | rfl), ?_⟩ <;> (unfold V.castles; rw [decide_eq_false (by omega)]; rfl)
  obtain ⟨s, a, b, c, d, e, l, hv, r0⟩ := hv
  have hk := fun w => of_k v w
  rw [hv] at hk
  rw [r0]
  clear hv r0
  have H := Lib.hid hk
  clear hk
  have hfd : ∀ w, (Instr.field 114 (.agg #[.string s, .bool a, .bool b, .bool c, .bool d, .bool e, .int .u8 l]) 2).run Tryd.prog w = .ok (.bool c) w := fun _ => by kernel_rfl
  go_enter Tryd.func67, Tryd.ntmps67
  go_wp2_with (go_at_call 77; refine (H.out _).mono ?_; rintro e w1 ⟨rfl, hb1⟩)
  go_ret
  exact ⟨rfl, hb1⟩
set_option maxRecDepth 100000 in
set_option maxHeartbeats 1000000 in
theorem none_any (v : Int) (w : World) : Calls Tryd.prog 65 #[.int .u8 v] w fun e w' => e = .returned (.agg (posC (V.none' v))) ∧ Below w.heap.size w w' := by
  go_enter Tryd.func65, Tryd.ntmps65
  go_wp2_with (refine wp_store_box rfl _ _ rfl ⟨w.heap.size, V.none' v, rfl, (by kernel_rfl), ⟨_, heap_alloc_new _ _, (by kernel_rfl)⟩, ?_⟩; intro W hP hq)
  exact bodyPost_ret (v := .agg (posC (V.none' v))) (results_cell_row Tryd.results65 _ _ w.heap.size 31 _ (0, 0) _ rfl hq.heap Tryd.underlying31 rfl (posC_info _)) rfl ⟨rfl, hP.below ((Below.refl _ _).alloc (Nat.le_refl _) _) (Nat.le_refl _)⟩
end Go.Proofs.YtldpejeodhkgdaaDoor
