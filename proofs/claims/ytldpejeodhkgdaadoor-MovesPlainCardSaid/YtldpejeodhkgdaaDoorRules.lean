/- The program's package rules: the table of the variants. -/
import Derived.Test.YtldpejeodhkgdaaDoorRows
import Derived.WalkKit
import Derived.WalkSpells
import Derived.Laws.CopyOwn
import Derived.Test.YtldpejeodhkgdaaDoorLib
namespace Go.Proofs.YtldpejeodhkgdaaDoor
open Go.RowKit

namespace V
def all : Array Value := #[.string ⟨#[115, 116, 97, 110, 100, 97, 114, 100]⟩, .bool true, .bool true, .bool true, .bool false, .bool true, .int .u8 5, .string ⟨#[99, 104, 101, 115, 115, 57, 54, 48]⟩, .bool true, .bool true, .bool true, .bool false, .bool true, .int .u8 5, .string ⟨#[99, 114, 97, 122, 121, 104, 111, 117, 115, 101]⟩, .bool true, .bool true, .bool true, .bool true, .bool true, .int .u8 5, .string ⟨#[97, 116, 111, 109, 105, 99]⟩, .bool true, .bool true, .bool true, .bool false, .bool true, .int .u8 5, .string ⟨#[97, 110, 116, 105, 99, 104, 101, 115, 115]⟩, .bool false, .bool false, .bool false, .bool false, .bool true, .int .u8 6, .string ⟨#[116, 104, 114, 101, 101, 99, 104, 101, 99, 107]⟩, .bool true, .bool true, .bool true, .bool false, .bool true, .int .u8 5, .string ⟨#[107, 105, 110, 103, 104, 105, 108, 108]⟩, .bool true, .bool true, .bool true, .bool false, .bool true, .int .u8 5, .string ⟨#[104, 111, 114, 100, 101]⟩, .bool false, .bool true, .bool true, .bool false, .bool true, .int .u8 5, .string ⟨#[114, 97, 99, 105, 110, 103]⟩, .bool true, .bool true, .bool false, .bool false, .bool false, .int .u8 0]
def of (v : Nat) : Array Value :=
  match v with
  | 0 => #[.string ⟨#[115, 116, 97, 110, 100, 97, 114, 100]⟩, .bool true, .bool true, .bool true, .bool false, .bool true, .int .u8 5]
  | 1 => #[.string ⟨#[99, 104, 101, 115, 115, 57, 54, 48]⟩, .bool true, .bool true, .bool true, .bool false, .bool true, .int .u8 5]
  | 2 => #[.string ⟨#[99, 114, 97, 122, 121, 104, 111, 117, 115, 101]⟩, .bool true, .bool true, .bool true, .bool true, .bool true, .int .u8 5]
  | 3 => #[.string ⟨#[97, 116, 111, 109, 105, 99]⟩, .bool true, .bool true, .bool true, .bool false, .bool true, .int .u8 5]
  | 4 => #[.string ⟨#[97, 110, 116, 105, 99, 104, 101, 115, 115]⟩, .bool false, .bool false, .bool false, .bool false, .bool true, .int .u8 6]
  | 5 => #[.string ⟨#[116, 104, 114, 101, 101, 99, 104, 101, 99, 107]⟩, .bool true, .bool true, .bool true, .bool false, .bool true, .int .u8 5]
  | 6 => #[.string ⟨#[107, 105, 110, 103, 104, 105, 108, 108]⟩, .bool true, .bool true, .bool true, .bool false, .bool true, .int .u8 5]
  | 7 => #[.string ⟨#[104, 111, 114, 100, 101]⟩, .bool false, .bool true, .bool true, .bool false, .bool true, .int .u8 5]
  | 8 => #[.string ⟨#[114, 97, 99, 105, 110, 103]⟩, .bool true, .bool true, .bool false, .bool false, .bool false, .int .u8 0]
  | _ => #[.string ⟨#[]⟩, .bool false, .bool false, .bool false, .bool false, .bool false, .int .u8 0]
def royal (v color : Int) : Bool := decide (v < 9) && (decide (color = 0 ∨ color = 1) && (decide (v ≠ 4) && (decide (v ≠ 7) || decide (color = 1))))
end V

theorem V.all_one : V.all.all (·.oneCell') = true := by decide +kernel
theorem Tryd.infoVar : (Tryd.prog.info? 123).map (·.size) = some 63 := by kernel_rfl
/-- The whole table goes into its variable. -/
theorem wp_store_table {ops : Array Oper} {rest : List Oper} {o : Oper} {a : Act} {w : World} {Q : Exit → Act → World → Prop} (hgd : o.guard = none) (x y : Operand) (ho : o.op = .store 123 x y) (g : Nat)
    (hx : a.eval x = .pointer (some ⟨g, 0, none⟩) ∧ a.eval y = .agg V.all ∧ ∃ old, w.heap[g]? = some (.cells old 123 (0, 0)) ∧ old.size = 63)
    (h : wpList Tryd.prog ops Q rest (a.put o.dst undef) (w.setRow g V.all)) : wpList Tryd.prog ops Q (o :: rest) a w := by
  obtain ⟨h1, h2, old, hg, hs⟩ := hx
  exact wpList_store_row hgd _ x y ho g V.all h1 h2 _ old hg (by rw [Tryd.infoVar]; rfl) (by rw [hs]; rfl) V.all_one h

set_option maxRecDepth 100000 in
set_option maxHeartbeats 4000000 in
theorem variants_any (w : World) :
    Calls Tryd.prog 83 #[] w fun e w' => e = .returned (.agg V.all) ∧ Below w.heap.size w w' := by
  go_enter Tryd.func83, Tryd.ntmps83
  go_wp2_with ((with_reducible refine wp_store_table rfl _ _ rfl w.heap.size ?_ ?_); · (exact ⟨rfl, rfl, _, (Below.heap_alloc _ _ _ (by simp)).trans (heap_alloc_new _ _), rfl⟩))
  have hold : ∀ (old : Array Value) (o : Obj), ((w.alloc (.cells old 123)).alloc o).heap[w.heap.size]? = some (.cells old 123 (0, 0)) := fun old o => (Below.heap_alloc _ _ _ (by simp)).trans (heap_alloc_new _ _)
  refine bodyPost_ret (v := .agg V.all) ?_ rfl ⟨rfl, ?_⟩
  · exact results_cell_row Tryd.results83 _ _ w.heap.size 123 V.all (0, 0) _ rfl (setRow_heap _ _ _ _ _ _ (hold _ _)) Tryd.underlying123 rfl Tryd.infoVar
  · exact below_setRow (((Below.refl _ _).alloc (Nat.le_refl _) _).alloc (by simp) _) (Nat.le_refl _) _

theorem V.at (v : Nat) (h : v < 9) (w : World) : (Instr.index 123 (.agg V.all) (.int .u8 (v : Int))).run Tryd.prog w = .ok (.agg (V.of v)) w := by
  rcases (show v = 0 ∨ v = 1 ∨ v = 2 ∨ v = 3 ∨ v = 4 ∨ v = 5 ∨ v = 6 ∨ v = 7 ∨ v = 8 by omega) with rfl | rfl | rfl | rfl | rfl | rfl | rfl | rfl | rfl <;> kernel_rfl

def V.zero : Array Value := #[.string ⟨#[]⟩, .bool false, .bool false, .bool false, .bool false, .bool false, .int .u8 0]
set_option maxRecDepth 100000 in
set_option maxHeartbeats 1000000 in
theorem of_k (v : Nat) (w : World) :
    Calls Tryd.prog 77 #[.int .u8 (v : Int)] w fun e w' => e = .returned (.agg (V.of v)) ∧ Below w.heap.size w w' := by
  by_cases h : v < 9
  · have hi := V.at v h
    have hv : ∃ s a b c d e l, V.of v = #[.string s, .bool a, .bool b, .bool c, .bool d, .bool e, .int .u8 l] := by
      match v, h with
      | 0, _ | 1, _ | 2, _ | 3, _ | 4, _ | 5, _ | 6, _ | 7, _ | 8, _ => exact ⟨_, _, _, _, _, _, _, rfl⟩
    obtain ⟨s, a, b, c, d, e, l, hv⟩ := hv
    rw [hv] at hi ⊢
    clear hv
    have hz : ∀ w1 : World, Below (w.alloc (.cells V.zero 114)).heap.size (w.alloc (.cells V.zero 114)) w1 → (∀ (j : Nat) v, V.zero[j]? = some v → w1.cell? ⟨w.heap.size, j, none⟩ = some v) ∧ ∀ j, w1.frozen? ⟨w.heap.size, j, none⟩ = false := by
      intro w1 hb
      have hg : w1.heap[w.heap.size]? = some (.cells V.zero 114 (0, 0)) := (hb.block w.heap.size (by simp)).trans (heap_alloc_new _ _)
      exact ⟨fun j v h => by simp only [World.cell?, hg]; exact h, fun j => by simp [World.frozen?, hg]⟩
    go_enter Tryd.func77, Tryd.ntmps77
    go_wp2_with (go_at_call 83; refine (variants_any _).mono ?_; rintro e w1 ⟨rfl, hb1⟩; obtain ⟨zc, zf⟩ := hz _ hb1; have z0 := zc 0 _ rfl; have z1 := zc 1 _ rfl; have z2 := zc 2 _ rfl; have z3 := zc 3 _ rfl; have z4 := zc 4 _ rfl; have z5 := zc 5 _ rfl; have z6 := zc 6 _ rfl)
    refine bodyPost_ret (v := .agg #[.string s, .bool a, .bool b, .bool c, .bool d, .bool e, .int .u8 l]) ?_ rfl ⟨rfl, ?_⟩
    · simp [results, Tryd.results77, go_sem, z0, z1, z2, z3, z4, z5, z6]
    · have k5 : Below w.heap.size w w1 := ((Below.refl _ _).alloc (Nat.le_refl _) _).trans (hb1.mono (by simp))
      exact ((((((k5.setCell (p := ⟨w.heap.size, 0, none⟩) (Nat.le_refl _) _).setCell (p := ⟨w.heap.size, 1, none⟩) (Nat.le_refl _) _).setCell (p := ⟨w.heap.size, 2, none⟩) (Nat.le_refl _) _).setCell (p := ⟨w.heap.size, 3, none⟩) (Nat.le_refl _) _).setCell (p := ⟨w.heap.size, 4, none⟩) (Nat.le_refl _) _).setCell (p := ⟨w.heap.size, 5, none⟩) (Nat.le_refl _) _).setCell (p := ⟨w.heap.size, 6, none⟩) (Nat.le_refl _) _
  · have hv : V.of v = #[.string ⟨#[]⟩, .bool false, .bool false, .bool false, .bool false, .bool false, .int .u8 0] := by
      unfold V.of; split <;> first | omega | rfl
    rw [hv]
    clear hv
    go_enter Tryd.func77, Tryd.ntmps77
    go_wp2
    refine bodyPost_ret (v := .agg #[.string ⟨#[]⟩, .bool false, .bool false, .bool false, .bool false, .bool false, .int .u8 0]) ?_ rfl ⟨rfl, (Below.refl _ _).alloc (Nat.le_refl _) _⟩
    simp [results, Tryd.results77, go_sem]

end Go.Proofs.YtldpejeodhkgdaaDoor
