/- The program's package rules: the table of the variants. -/
import Derived.Test.YtdfgpbighadplaaDoorRows
import Derived.WalkKit
import Derived.WalkSpells
import Derived.Laws.CopyOwn
import Derived.Test.YtdfgpbighadplaaDoorLib
namespace Go.Proofs.YtdfgpbighadplaaDoor
open Go.RowKit

namespace V
def all : Array Value := #[.string ⟨#[115, 116, 97, 110, 100, 97, 114, 100]⟩, .bool true, .bool true, .bool true, .bool false, .bool true, .int .u8 5, .string ⟨#[99, 104, 101, 115, 115, 57, 54, 48]⟩, .bool true, .bool true, .bool true, .bool false, .bool true, .int .u8 5, .string ⟨#[99, 114, 97, 122, 121, 104, 111, 117, 115, 101]⟩, .bool true, .bool true, .bool true, .bool true, .bool true, .int .u8 5, .string ⟨#[97, 116, 111, 109, 105, 99]⟩, .bool true, .bool true, .bool true, .bool false, .bool true, .int .u8 5, .string ⟨#[97, 110, 116, 105, 99, 104, 101, 115, 115]⟩, .bool false, .bool false, .bool false, .bool false, .bool true, .int .u8 6, .string ⟨#[116, 104, 114, 101, 101, 99, 104, 101, 99, 107]⟩, .bool true, .bool true, .bool true, .bool false, .bool true, .int .u8 5, .string ⟨#[107, 105, 110, 103, 104, 105, 108, 108]⟩, .bool true, .bool true, .bool true, .bool false, .bool true, .int .u8 5, .string ⟨#[104, 111, 114, 100, 101]⟩, .bool false, .bool true, .bool true, .bool false, .bool true, .int .u8 5, .string ⟨#[114, 97, 99, 105, 110, 103]⟩, .bool true, .bool true, .bool false, .bool false, .bool false, .int .u8 0]
def of (v : Nat) : Array Value :=
  match v with
  | 0 => #[.string ⟨#[115, 116, 97, 110, 100, 97, 114, 100]⟩, .bool true, .bool true, .bool true, .bool false, .bool true, .int .u8 5]
  | 1 => #[.string ⟨#[99, 104, 101, 115, 115, 57, 54, 48]⟩, .bool true, .bool true, .bool true, .bool false, .bool true, .int .u8 5]
  | 2 => #[.string ⟨#[99, 114, 97, 122, 121, 104, 111, 117, 115, 101]⟩, .bool true, .bool true, .bool true, .bool true, .bool true, .int .u8 5]
  | 3 => #[.string ⟨#[97, 116, 111, 109, 105, 99]⟩, .bool true, .bool true, .bool true, .bool false, .bool true, .int .u8 5]
  | 4 => #[.string ⟨#[97, 110, 116, 105, 99, 104, 101, 115, 115]⟩, .bool false, .bool false, .bool false, .bool false, .bool true, .int .u8 6]
  | 5 => #[.string ⟨#[116, 104, 114, 101, 101, 99, 104, 101, 99, 107]⟩, .bool true, .bool true, .bool true, .bool false, .bool true, .int .u8 5]
  | 6 => #[.string ⟨#[107, 105, 110, 103, 104, 105, 108, 108]⟩, .bool true, .bool true, .bool true, .bool false, .bool true, .int .u8 5]
  | 7 => #[.string ⟨#[104, 111, 114, 100, 101]⟩, .bool false, .bool true, .bool true, .bool false, .bool true, .int .u8 5]
  | 8 => #[.string ⟨#[114, 97, 99, 105, 110, 103]⟩, .bool true, .bool true, .bool false, .bool false, .bool false, .int .u8 0]
  | _ => #[.string ⟨#[]⟩, .bool false, .bool false, .bool false, .bool false, .bool false, .int .u8 0]
def royal (v color : Int) : Bool := decide (v < 9) && (decide (color = 0 ∨ color = 1) && (decide (v ≠ 4) && (decide (v ≠ 7) || decide (color = 1))))
end V

theorem V.all_one : V.all.all (·.oneCell') = true := by decide +kernel
theorem Tryd.infoVar : (Tryd.prog.info? 83).map (·.size) = some 63 := by kernel_rfl
/-- The whole table goes into its variable. -/
theorem wp_store_table {ops : Array Oper} {rest : List Oper} {o : Oper} {a : Act} {w : World} {Q : Exit → Act → World → Prop} (hgd : o.guard = none) (x y : Operand) (ho : o.op = .store 83 x y) (g : Nat)
    (hx : a.eval x = .pointer (some ⟨g, 0, none⟩) ∧ a.eval y = .agg V.all ∧ ∃ old, w.heap[g]? = some (.cells old 83 (0, 0)) ∧ old.size = 63)
    (h : wpList Tryd.prog ops Q rest (a.put o.dst undef) (w.setRow g V.all)) : wpList Tryd.prog ops Q (o :: rest) a w := by
  obtain ⟨h1, h2, old, hg, hs⟩ := hx
  exact wpList_store_row hgd _ x y ho g V.all h1 h2 _ old hg (by rw [Tryd.infoVar]; rfl) (by rw [hs]; rfl) V.all_one h

set_option maxRecDepth 100000 in
set_option maxHeartbeats 4000000 in
theorem variants_any (w : World) :
    Calls Tryd.prog 71 #[] w fun e w' => e = .returned (.agg V.all) ∧ Below w.heap.size w w' := by
  go_enter Tryd.func71, Tryd.ntmps71
  go_wp2_with ((with_reducible refine wp_store_table rfl _ _ rfl w.heap.size ?_ ?_); · (exact ⟨rfl, rfl, _, (Below.heap_alloc _ _ _ (by simp)).trans (heap_alloc_new _ _), rfl⟩))
  have hold : ∀ (old : Array Value) (o : Obj), ((w.alloc (.cells old 83)).alloc o).heap[w.heap.size]? = some (.cells old 83 (0, 0)) := fun old o => (Below.heap_alloc _ _ _ (by simp)).trans (heap_alloc_new _ _)
  refine bodyPost_ret (v := .agg V.all) ?_ rfl ⟨rfl, ?_⟩
  · exact results_cell_row Tryd.results71 _ _ w.heap.size 83 V.all (0, 0) _ rfl (setRow_heap _ _ _ _ _ _ (hold _ _)) Tryd.underlying83 rfl Tryd.infoVar
  · exact below_setRow (((Below.refl _ _).alloc (Nat.le_refl _) _).alloc (by simp) _) (Nat.le_refl _) _

theorem V.at (v : Nat) (h : v < 9) (w : World) : (Instr.index 83 (.agg V.all) (.int .u8 (v : Int))).run Tryd.prog w = .ok (.agg (V.of v)) w := by
  rcases (show v = 0 ∨ v = 1 ∨ v = 2 ∨ v = 3 ∨ v = 4 ∨ v = 5 ∨ v = 6 ∨ v = 7 ∨ v = 8 by omega) with rfl | rfl | rfl | rfl | rfl | rfl | rfl | rfl | rfl <;> kernel_rfl

def V.zero : Array Value := #[.string ⟨#[]⟩, .bool false, .bool false, .bool false, .bool false, .bool false, .int .u8 0]
set_option maxRecDepth 100000 in
set_option maxHeartbeats 1000000 in
theorem of_k (v : Nat) (w : World) :
    Calls Tryd.prog 66 #[.int .u8 (v : Int)] w fun e w' => e = .returned (.agg (V.of v)) ∧ Below w.heap.size w w' := by
  by_cases h : v < 9
  · have hi := V.at v h
    have hv : ∃ s a b c d e l, V.of v = #[.string s, .bool a, .bool b, .bool c, .bool d, .bool e, .int .u8 l] := by
      match v, h with
      | 0, _ | 1, _ | 2, _ | 3, _ | 4, _ | 5, _ | 6, _ | 7, _ | 8, _ => exact ⟨_, _, _, _, _, _, _, rfl⟩
    obtain ⟨s, a, b, c, d, e, l, hv⟩ := hv
    rw [hv] at hi ⊢
    clear hv
    have hz : ∀ w1 : World, Below (w.alloc (.cells V.zero 78)).heap.size (w.alloc (.cells V.zero 78)) w1 → (∀ (j : Nat) v, V.zero[j]? = some v → w1.cell? ⟨w.heap.size, j, none⟩ = some v) ∧ ∀ j, w1.frozen? ⟨w.heap.size, j, none⟩ = false := by
      intro w1 hb
      have hg : w1.heap[w.heap.size]? = some (.cells V.zero 78 (0, 0)) := (hb.block w.heap.size (by simp)).trans (heap_alloc_new _ _)
      exact ⟨fun j v h => by simp only [World.cell?, hg]; exact h, fun j => by simp [World.frozen?, hg]⟩
    go_enter Tryd.func66, Tryd.ntmps66
    go_wp2_with (go_at_call 71; refine (variants_any _).mono ?_; rintro e w1 ⟨rfl, hb1⟩; obtain ⟨zc, zf⟩ := hz _ hb1; have z0 := zc 0 _ rfl; have z1 := zc 1 _ rfl; have z2 := zc 2 _ rfl; have z3 := zc 3 _ rfl; have z4 := zc 4 _ rfl; have z5 := zc 5 _ rfl; have z6 := zc 6 _ rfl)
    refine bodyPost_ret (v := .agg #[.string s, .bool a, .bool b, .bool c, .bool d, .bool e, .int .u8 l]) ?_ rfl ⟨rfl, ?_⟩
    · simp [results, Tryd.results66, go_sem, z0, z1, z2, z3, z4, z5, z6]
    · have k5 : Below w.heap.size w w1 := ((Below.refl _ _).alloc (Nat.le_refl _) _).trans (hb1.mono (by simp))
      exact ((((((k5.setCell (p := ⟨w.heap.size, 0, none⟩) (Nat.le_refl _) _).setCell (p := ⟨w.heap.size, 1, none⟩) (Nat.le_refl _) _).setCell (p := ⟨w.heap.size, 2, none⟩) (Nat.le_refl _) _).setCell (p := ⟨w.heap.size, 3, none⟩) (Nat.le_refl _) _).setCell (p := ⟨w.heap.size, 4, none⟩) (Nat.le_refl _) _).setCell (p := ⟨w.heap.size, 5, none⟩) (Nat.le_refl _) _).setCell (p := ⟨w.heap.size, 6, none⟩) (Nat.le_refl _) _
  · have hv : V.of v = #[.string ⟨#[]⟩, .bool false, .bool false, .bool false, .bool false, .bool false, .int .u8 0] := by
      unfold V.of; split <;> first | omega | rfl
    rw [hv]
    clear hv
    go_enter Tryd.func66, Tryd.ntmps66
    go_wp2
    refine bodyPost_ret (v := .agg #[.string ⟨#[]⟩, .bool false, .bool false, .bool false, .bool false, .bool false, .int .u8 0]) ?_ rfl ⟨rfl, (Below.refl _ _).alloc (Nat.le_refl _) _⟩
    simp [results, Tryd.results66, go_sem]

set_option maxRecDepth 100000 in
set_option maxHeartbeats 1000000 in
theorem royal_any (v : Nat) (color : Int) (w : World) (h0 : 0 ≤ color) :
    Calls Tryd.prog 51 #[.int .u8 (v : Int), .int .u8 color] w fun e w' => e = .returned (.bool (V.royal v color)) ∧ Below w.heap.size w w' := by
  by_cases h : color ≤ 1
  · have hv : ∃ s a b c d e l, V.of v = #[.string s, .bool a, .bool b, .bool c, .bool d, .bool e, .int .u8 l] ∧ V.royal v 0 = a ∧ V.royal v 1 = b := by
      by_cases h9 : v < 9
      · match v, h9 with
        | 0, _ | 1, _ | 2, _ | 3, _ | 4, _ | 5, _ | 6, _ | 7, _ | 8, _ => exact ⟨_, _, _, _, _, _, _, rfl, rfl, rfl⟩
      · refine ⟨_, _, _, _, _, _, _, (by unfold V.of; split <;> first | omega | rfl), ?_, ?_⟩ <;> (unfold V.royal; rw [decide_eq_false (by omega)]; rfl)
    obtain ⟨s, a, b, c, d, e, l, hv, r0, r1⟩ := hv
    have hk := fun w => of_k v w
    rw [hv] at hk
    clear hv
    have H := Lib.hid hk
    clear hk
    have hfd : ∀ w, (Instr.field 78 (.agg #[.string s, .bool a, .bool b, .bool c, .bool d, .bool e, .int .u8 l]) 1).run Tryd.prog w = .ok (.agg #[.bool a, .bool b]) w := fun _ => by kernel_rfl
    have hi0 : ∀ w, (Instr.index 76 (.agg #[.bool a, .bool b]) (.int .u8 0)).run Tryd.prog w = .ok (.bool a) w := fun _ => by kernel_rfl
    have hi1 : ∀ w, (Instr.index 76 (.agg #[.bool a, .bool b]) (.int .u8 1)).run Tryd.prog w = .ok (.bool b) w := fun _ => by kernel_rfl
    rcases (show color = 0 ∨ color = 1 by omega) with rfl | rfl
    · rw [r0]
      clear r0 r1
      go_enter Tryd.func51, Tryd.ntmps51
      go_wp2_with (go_at_call 66; refine (H.out _).mono ?_; rintro e w1 ⟨rfl, hb1⟩)
      go_ret
      exact ⟨rfl, hb1⟩
    · rw [r1]
      clear r0 r1
      go_enter Tryd.func51, Tryd.ntmps51
      go_wp2_with (go_at_call 66; refine (H.out _).mono ?_; rintro e w1 ⟨rfl, hb1⟩)
      go_ret
      exact ⟨rfl, hb1⟩
  · have e := Lib.hid (show V.royal v color = false by unfold V.royal; rw [decide_eq_false (p := color = 0 ∨ color = 1) (by omega)]; simp)
    go_enter Tryd.func51, Tryd.ntmps51
    go_wp2
    go_ret
    exact ⟨ret_bool e.out.symm, Below.refl _ _⟩

end Go.Proofs.YtdfgpbighadplaaDoor
