/- The document's answer of layer 8: Is, Find, Beside. -/
import Derived.Test.YtdfgpbighadplaaDoorRef08
import Derived.Test.YtdfgpbighadplaaDoorCheckers
namespace Go.Proofs.YtdfgpbighadplaaDoor
open Go.RowKit Go.Sort

/-- A square's cell, in the box of a position. -/
theorem bd_cell {w : World} {b : Nat} {t : TypeId} {fr : Nat × Nat} {c : Nat → Int} (hg : w.heap[b]? = some (.cells (posC c) t fr)) (s : Nat) (hs : s < 64) : w.cell? ⟨b, 1 + s, none⟩ = some (.int .u8 (c (1 + s))) := by
  simp only [World.cell?, hg]; exact posC_board c s hs

set_option maxRecDepth 100000 in
set_option maxHeartbeats 1000000 in
theorem d8is_any (c : Nat → Int) (s : Nat) (color kind : Int) (w : World) (hc : BdOk c) (hs : s < 64) :
    Calls Tryd.prog 55 #[.agg (posC c), .int .i64 (s : Int), .int .u8 color, .int .u8 kind] w fun e w' => e = .returned (.bool (D.is c s color kind)) ∧ Below w.heap.size w w' := by
  obtain ⟨h0, h1⟩ := hc s hs
  clear hc
  have hcl := bd_cell (heap_alloc_new w (.cells (posC c) 31)) s hs
  cases hk : (P.kind (c (1 + s)) == kind)
  · have e := Lib.hid (show D.is c s color kind = false by unfold D.is; rw [hk]; rfl)
    go_enter Tryd.func55, Tryd.ntmps55
    go_wp2_with (go_at_call 22; refine (d8kind_any _ _ h0 h1).mono ?_; rintro e w' ⟨rfl, rfl⟩)
    go_ret
    exact ⟨ret_bool e.out.symm, (Below.refl _ _).alloc (Nat.le_refl _) _⟩
  · have e := Lib.hid (show D.is c s color kind = (D.color (c (1 + s)) == color) by unfold D.is; rw [hk]; rfl)
    go_enter Tryd.func55, Tryd.ntmps55
    go_wp2_with (first | (go_at_call 22; refine (d8kind_any _ _ h0 h1).mono ?_; rintro e w' ⟨rfl, rfl⟩) | (go_at_call 23; refine (d8color_any _ _ h0 h1).mono ?_; rintro e w' ⟨rfl, rfl⟩))
    go_ret
    exact ⟨ret_bool e.out.symm, (Below.refl _ _).alloc (Nat.le_refl _) _⟩

theorem d8is_eq (c : Nat → Int) (s : Nat) (color kind : Int) (b : Bool) (w : World) (hc : BdOk c) (hs : s < 64) (h : D.is c s color kind = b) :
    Calls Tryd.prog 55 #[.agg (posC c), .int .i64 (s : Int), .int .u8 color, .int .u8 kind] w fun e w' => e = .returned (.bool b) ∧ Below w.heap.size w w' := by
  rw [← h]; exact d8is_any c s color kind w hc hs

namespace D
/-- The first square from k on of which something holds; -1. -/
def first (p : Nat → Bool) : Nat → Nat → Int
  | _, 0 => -1
  | k, n + 1 => if p k then (k : Int) else first p (k + 1) n
def find (c : Nat → Int) (color kind : Int) : Int := first (fun s => is c s color kind) 0 64
theorem first_yes (p : Nat → Bool) (k n : Nat) (h : p k = true) (hn : 0 < n) : first p k n = k := by
  obtain ⟨m, rfl⟩ : ∃ m, n = m + 1 := ⟨n - 1, by omega⟩
  rw [first, if_pos h]
theorem first_no (p : Nat → Bool) (k n : Nat) (h : p k = false) (hn : 0 < n) : first p k n = first p (k + 1) (n - 1) := by
  obtain ⟨m, rfl⟩ : ∃ m, n = m + 1 := ⟨n - 1, by omega⟩
  rw [first, h]; rfl
end D

set_option maxRecDepth 100000 in
set_option maxHeartbeats 1000000 in
theorem d8find_any (c : Nat → Int) (color kind : Int) (w : World) (hc : BdOk c) :
    Calls Tryd.prog 53 #[.agg (posC c), .int .u8 color, .int .u8 kind] w fun e w' => e = .returned (.int .i64 (D.find c color kind)) ∧ Below w.heap.size w w' := by
  have Hc := Lib.hid hc
  clear hc
  go_enter Tryd.func53, Tryd.ntmps53
  go_wp2
  have HW := Lib.hid (heap_alloc_new w (.cells (posC c) 31))
  have hb0 : Below w.heap.size w (w.alloc (.cells (posC c) 31)) := (Below.refl _ _).alloc (Nat.le_refl _) _
  have Hb0 := Lib.hid hb0
  clear hb0
  go_loopw [7] (fun i wr => ∃ k : Nat, k ≤ 64 ∧ i = .int .i64 (k : Int) ∧ D.find c color kind = D.first (fun s => D.is c s color kind) k (64 - k) ∧ wr.heap[w.heap.size]? = some (.cells (posC c) 31 (0, 0)) ∧ Below w.heap.size w wr) (fun i _ => 64 - (intOf i).toNat)
  case atStart => exact ⟨0, Nat.zero_le _, rfl, rfl, HW.out, Hb0.out⟩
  case round =>
    obtain ⟨k, hk, rfl, he, hp, hbr⟩ := hrel
    have He := Lib.hid he
    clear he
    by_cases hlt : k < 64
    · cases hi : D.is c k color kind
      · go_wp2_with (first | ((with_reducible refine wp_load_pos rfl _ rfl c ?_ ?_); · (exact ⟨_, _, _, rfl, hp⟩)) | (go_at_call 55; refine (d8is_eq c k _ _ false _ Hc.out hlt hi).mono ?_; rintro e w1 ⟨rfl, hb1⟩))
        refine ⟨⟨k + 1, by omega, by go_num, ?_, (hb1.block _ (Array.getElem?_eq_some_iff.1 hp).1).trans hp, below_next hbr hb1⟩, by simp [intOf]; omega⟩
        rw [He.out, D.first_no _ _ _ hi (by omega)]
        rfl
      · go_wp2_with (first | ((with_reducible refine wp_load_pos rfl _ rfl c ?_ ?_); · (exact ⟨_, _, _, rfl, hp⟩)) | (go_at_call 55; refine (d8is_eq c k _ _ true _ Hc.out hlt hi).mono ?_; rintro e w1 ⟨rfl, hb1⟩))
        go_ret
        exact ⟨ret_int (by rw [He.out, D.first_yes _ _ _ hi (by omega)]), below_next hbr hb1⟩
    · obtain rfl : k = 64 := by omega
      go_wp2
      go_ret
      exact ⟨ret_int (by rw [He.out]; rfl), hbr⟩

end Go.Proofs.YtdfgpbighadplaaDoor
