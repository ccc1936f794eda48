/- The laws of layer 8: none, awake. -/
import Derived.Test.YtdfgpbighadplaaDoorBox
import Derived.Test.YtdfgpbighadplaaDoorFromAny
namespace Go.Proofs.YtdfgpbighadplaaDoor
open Go.RowKit Go.Sort

def noneC : Nat → Int := fun i => if i = 83 then -1 else if i = 87 then 1 else 0
theorem none_cells : Value.agg ((Tryd.zeroCells31.setIfInBounds 83 (.int .i8 (-1))).setIfInBounds 87 (.int .i64 1)) = .agg (posC noneC) := by kernel_rfl

set_option maxRecDepth 100000 in
set_option maxHeartbeats 1000000 in
theorem none08_any (w : World) :
    Calls Tryd.prog 21 #[] w fun e w' => e = .returned (.agg (posC noneC)) ∧ Below w.heap.size w w' := by
  go_enter Tryd.func21, Tryd.ntmps21
  go_wp2_with ((with_reducible refine wp_store_box rfl _ _ rfl ?_); refine ⟨_, noneC, rfl, none_cells, ⟨_, heap_alloc_new _ _, rfl⟩, ?_⟩; intro W1 hW1 hp1)
  refine bodyPost_ret (v := .agg (posC noneC)) ?_ rfl ⟨rfl, hW1.below ((Below.refl _ _).alloc (Nat.le_refl _) _) (Nat.le_refl _)⟩
  exact results_cell_row Tryd.results21 _ _ w.heap.size 31 (posC noneC) (0, 0) _ rfl hp1.heap Tryd.underlying31 rfl Tryd.infoPos

def awP : Nat → Int := upd (upd (upd (upd noneC 5 6) 1 4) 61 14) 37 12
def awQ : Nat → Int := upd (upd (upd (upd noneC 13 1) 15 1) 7 2) 2 2
theorem awP_bd : BdOk awP := fun s hs => (show ∀ s : Fin 64, 0 ≤ awP (1 + s.val) ∧ awP (1 + s.val) ≤ 255 by decide +kernel) ⟨s, hs⟩
theorem awQ_bd : BdOk awQ := fun s hs => (show ∀ s : Fin 64, 0 ≤ awQ (1 + s.val) ∧ awQ (1 + s.val) ≤ 255 by decide +kernel) ⟨s, hs⟩
theorem aw1 : K.check awP 0 = true := by decide +kernel
theorem aw2 : K.check awP 1 = false := by decide +kernel
theorem aw3 : K.checkers awP = 68719476736#64 := by decide +kernel
theorem aw4 : K.by awQ 21 0 = 20544#64 := by decide +kernel
theorem aw5 : K.on awQ 28 0 = false := by decide +kernel
theorem aw6 : K.from awQ 1 = 329728#64 := by decide +kernel

theorem check_eq' (c : Nat → Int) (color : Int) (b : Bool) (w : World) (hc : BdOk c) (hT : Tb w) (hv : 0 ≤ c 0) (h0 : 0 ≤ color) (h : K.check c color = b) :
    Calls Tryd.prog 16 #[.agg (posC c), .int .u8 color] w fun e w' => e = .returned (.bool b) ∧ Below w.heap.size w w' := by
  rw [← h]; exact check_any c color w hc hT hv h0
theorem checkers_eq' (c : Nat → Int) (v : BitVec 64) (n : Int) (w : World) (hc : BdOk c) (hT : Tb w) (hv : 0 ≤ c 0) (h0 : 0 ≤ c 78) (h : K.checkers c = v) (hn : U v = n) :
    Calls Tryd.prog 18 #[.agg (posC c)] w fun e w' => e = .returned (.int .u64 n) ∧ Below w.heap.size w w' := by
  rw [← hn, ← h]; exact checkers_any c w hc hT hv h0
theorem by_eq' (c : Nat → Int) (s color : Int) (v : BitVec 64) (n : Int) (w : World) (hc : BdOk c) (hT : Tb w) (h : K.by c s color = v) (hn : U v = n) :
    Calls Tryd.prog 11 #[.agg (posC c), .int .i64 s, .int .u8 color] w fun e w' => e = .returned (.int .u64 n) ∧ Below w.heap.size w w' := by
  rw [← hn, ← h]; exact by_any c s color w hc hT
theorem on_eq' (c : Nat → Int) (s color : Int) (b : Bool) (w : World) (hc : BdOk c) (hT : Tb w) (h : K.on c s color = b) :
    Calls Tryd.prog 12 #[.agg (posC c), .int .i64 s, .int .u8 color] w fun e w' => e = .returned (.bool b) ∧ Below w.heap.size w w' := by
  rw [← h]; exact on_any c s color w hc hT
theorem from_eq' (c : Nat → Int) (s : Int) (v : BitVec 64) (n : Int) (w : World) (hc : BdOk c) (hT : Tb w) (h : K.from c s = v) (hn : U v = n) :
    Calls Tryd.prog 14 #[.agg (posC c), .int .i64 s] w fun e w' => e = .returned (.int .u64 n) ∧ Below w.heap.size w w' := by
  rw [← hn, ← h]; exact from_any c s w hc hT

theorem old_below {w W : World} (h : Below w.heap.size w W) : w.heap.size ≤ W.heap.size := h.size

set_option maxRecDepth 100000 in
set_option maxHeartbeats 4000000 in
theorem awake08_any (w : World) (hT : Tb w) :
    Calls Tryd.prog 13 #[] w fun e w' => e = .returned (.bool true) ∧ Below w.heap.size w w' := by
  have HT := Lib.hid (fun W (hb : Below w.heap.size w W) => tb_below hT hb)
  clear hT
  go_enter Tryd.func13, Tryd.ntmps13
  go_wp2_with fail
  refine (none08_any _).mono ?_
  rintro e w1 ⟨rfl, hb0⟩
  have hz := hb0.size
  go_wp2_with (first
    | ((with_reducible refine wp_store_box rfl _ _ rfl ?_); refine ⟨_, noneC, rfl, rfl, ⟨_, heap_alloc_new _ _, rfl⟩, ?_⟩; intro V hV hp; replace hb0 := hV.below (hb0.alloc hz _) hz; have hz2 := hV.size; simp at hz2; have hlt : w1.heap.size < V.heap.size := (by omega); clear hV hz2)
    | ((with_reducible refine wp_store_cell rfl _ _ _ rfl ?_); refine ⟨_, _, _, _, _, rfl, rfl, by assumption, by omega, rfl, Tryd.size_u8, ?_⟩; intro V hV hp2; replace hb0 := hV.below hb0 hz; replace hlt := Nat.lt_of_lt_of_eq hlt hV.size.symm; clear hV hp; have hp := hp2; clear hp2)
    | fail)
  refine (none08_any _).mono ?_
  rintro e w2 ⟨rfl, hb2⟩
  have hz2 := hb2.size
  replace hp : PosAt w2 w1.heap.size awP := hp.below hb2
  replace hb0 := below_next hb0 hb2
  clear hb2
  have hlt2 : w1.heap.size < w2.heap.size := by omega
  have hz3 := hb0.size
  clear hlt hz2
  go_wp2_with (first
    | ((with_reducible refine wp_store_box rfl _ _ rfl ?_); refine ⟨_, noneC, rfl, rfl, ⟨_, heap_alloc_new _ _, rfl⟩, ?_⟩; intro V hV hq; replace hb0 := hV.below (hb0.alloc hz3 _) hz3; have hp2 := hV.pos (hp.alloc _) (Nat.ne_of_lt hlt2); clear hV hp; have hp := hp2; clear hp2)
    | ((with_reducible refine wp_store_cell rfl _ _ _ rfl ?_); refine ⟨_, _, _, _, _, rfl, rfl, hq, (by omega), rfl, Tryd.size_u8, ?_⟩; intro V hV hq2; replace hb0 := hV.below hb0 hz3; have hp2 := hV.pos hp (Nat.ne_of_lt hlt2); clear hV hp hq; have hp := hp2; have hq := hq2; clear hp2 hq2)
    | ((with_reducible refine wp_load_box rfl _ rfl ?_); refine ⟨_, _, rfl, (by assumption), ?_⟩)
    | ((with_reducible refine wp_load_box_g rfl _ rfl ?_); refine ⟨_, _, rfl, (by assumption), ?_⟩)
    | fail)
  refine (check_eq' awP 0 true _ awP_bd (HT.out _ hb0) (by decide) (by decide) aw1).mono ?_
  rintro e u ⟨rfl, hb⟩
  replace hp := hp.below hb
  replace hq := hq.below hb
  replace hb0 := below_next hb0 hb
  clear hb
  replace hq : PosAt _ _ awQ := hq
  go_wp2_with (first | ((with_reducible refine wp_load_box_g rfl _ rfl ?_); refine ⟨_, _, rfl, (by assumption), ?_⟩) | ((with_reducible refine wp_load_box rfl _ rfl ?_); refine ⟨_, _, rfl, (by assumption), ?_⟩) | fail)
  refine (check_eq' awP 1 false _ awP_bd (HT.out _ hb0) (by decide) (by decide) aw2).mono ?_
  rintro e u ⟨rfl, hb⟩
  replace hp := hp.below hb
  replace hq := hq.below hb
  replace hb0 := below_next hb0 hb
  clear hb
  go_wp2_with (first | ((with_reducible refine wp_load_box_g rfl _ rfl ?_); refine ⟨_, _, rfl, (by assumption), ?_⟩) | ((with_reducible refine wp_load_box rfl _ rfl ?_); refine ⟨_, _, rfl, (by assumption), ?_⟩) | fail)
  refine (checkers_eq' awP _ 68719476736 _ awP_bd (HT.out _ hb0) (by decide) (by decide) aw3 rfl).mono ?_
  rintro e u ⟨rfl, hb⟩
  replace hp := hp.below hb
  replace hq := hq.below hb
  replace hb0 := below_next hb0 hb
  clear hb
  go_wp2_with (first | ((with_reducible refine wp_load_box_g rfl _ rfl ?_); refine ⟨_, _, rfl, (by assumption), ?_⟩) | ((with_reducible refine wp_load_box rfl _ rfl ?_); refine ⟨_, _, rfl, (by assumption), ?_⟩) | fail)
  refine (by_eq' awQ 21 0 _ 20544 _ awQ_bd (HT.out _ hb0) aw4 rfl).mono ?_
  rintro e u ⟨rfl, hb⟩
  replace hp := hp.below hb
  replace hq := hq.below hb
  replace hb0 := below_next hb0 hb
  clear hb
  go_wp2_with (first | ((with_reducible refine wp_load_box_g rfl _ rfl ?_); refine ⟨_, _, rfl, (by assumption), ?_⟩) | ((with_reducible refine wp_load_box rfl _ rfl ?_); refine ⟨_, _, rfl, (by assumption), ?_⟩) | fail)
  refine (on_eq' awQ 28 0 false _ awQ_bd (HT.out _ hb0) aw5).mono ?_
  rintro e u ⟨rfl, hb⟩
  replace hp := hp.below hb
  replace hq := hq.below hb
  replace hb0 := below_next hb0 hb
  clear hb
  go_wp2_with (first | ((with_reducible refine wp_load_box_g rfl _ rfl ?_); refine ⟨_, _, rfl, (by assumption), ?_⟩) | ((with_reducible refine wp_load_box rfl _ rfl ?_); refine ⟨_, _, rfl, (by assumption), ?_⟩) | fail)
  refine (from_eq' awQ 1 _ 329728 _ awQ_bd (HT.out _ hb0) aw6 rfl).mono ?_
  rintro e u ⟨rfl, hb⟩
  replace hp := hp.below hb
  replace hq := hq.below hb
  replace hb0 := below_next hb0 hb
  clear hb
  go_wp2
  go_ret
  exact ⟨rfl, hb0⟩

end Go.Proofs.YtdfgpbighadplaaDoor
