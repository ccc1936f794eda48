/- The laws of layer 14: awake. -/
import Derived.Test.YtnkkhdcjbjiimaaDoorCastY
namespace Go.Proofs.YtnkkhdcjbjiimaaDoor
open Go.RowKit Go.Sort

namespace T
theorem ok_of {c : Nat → Int} (h : ∀ i : Fin 88, (Lit.int (pk i.val) (c i.val)).wf = true) : PosOk c := fun i hi => h ⟨i, hi⟩
theorem first_ok : PosOk firstP := ok_of (by decide +kernel)
theorem aw1_ok : PosOk (upd firstP (1 + 37) 12) := ok_of (by decide +kernel)
theorem aw2_ok : PosOk (upd firstP (1 + 33) 12) := ok_of (by decide +kernel)
theorem aw3_ok : PosOk (upd firstP (1 + 36) 12) := ok_of (by decide +kernel)
theorem aw4_ok : PosOk (upd firstP (1 + 1) 2) := ok_of (by decide +kernel)
theorem aw0_l : clist firstP = [(4, 0), (4, 7)] := by decide +kernel
theorem aw1_l : clist (upd firstP (1 + 37) 12) = [(4, 0)] := by decide +kernel
theorem aw2_l : clist (upd firstP (1 + 33) 12) = [(4, 0), (4, 7)] := by decide +kernel
theorem aw3_l : clist (upd firstP (1 + 36) 12) = [] := by decide +kernel
theorem aw4_l : clist (upd firstP (1 + 1) 2) = [(4, 7)] := by decide +kernel
end T
theorem both14_eq (c : Nat → Int) (a h : Bool) (L : List (Nat × Nat)) (v : Bool) (w : World) (hc : PosOk c) (hT : Tb w) (hL : T.clist c = L) (hL2 : L.length ≤ 2) (hv : T.bothB L a h = v) :
    Calls Tryd.prog 21 #[.agg (posC c), .bool a, .bool h] w fun e w' => e = .returned (.bool v) ∧ Below w.heap.size w w' := by
  rw [← hv]; exact both14_any c a h L w hc hT hL hL2

set_option maxRecDepth 100000 in
set_option maxHeartbeats 4000000 in
theorem awake14_any (w : World) (hT : Tb w) :
    Calls Tryd.prog 16 #[] w fun e w' => e = .returned (.bool true) ∧ Below w.heap.size w w' := by
  have HT := Lib.hid (fun W (hb : Below w.heap.size w W) => tb_below hT hb)
  clear hT
  go_enter Tryd.func16, Tryd.ntmps16
  go_wp2_with fail
  refine (first14_any _).mono ?_
  rintro e w1 ⟨rfl, hb0⟩
  have hz := hb0.size
  go_wp2_with (first
    | ((with_reducible refine wp_store_box rfl _ _ rfl ?_); refine ⟨_, T.firstP, rfl, rfl, ⟨_, heap_alloc_new _ _, zero31_sizeC⟩, ?_⟩; intro V hV hp; replace hb0 := hV.below (hb0.alloc hz _) hz)
    | ((with_reducible refine wp_load_box rfl _ rfl ?_); refine ⟨_, _, rfl, (by assumption), ?_⟩)
    | ((with_reducible refine wp_load_box_g rfl _ rfl ?_); refine ⟨_, _, rfl, (by assumption), ?_⟩)
    | fail)
  refine (both14_eq T.firstP true true [(4, 0), (4, 7)] true _ T.first_ok (HT.out _ hb0) T.aw0_l (by decide) (by decide +kernel)).mono ?_
  rintro e u ⟨rfl, hb⟩
  replace hp := hp.below hb
  replace hb0 := below_next hb0 hb
  clear hb
  go_wp2_with (first | ((with_reducible refine wp_load_box_g rfl _ rfl ?_); refine ⟨_, _, rfl, (by assumption), ?_⟩) | ((with_reducible refine wp_load_box rfl _ rfl ?_); refine ⟨_, _, rfl, (by assumption), ?_⟩) | fail)
  refine (with14_any T.firstP 37 12 _ (by decide)).mono ?_
  rintro e u ⟨rfl, hb⟩
  replace hp := hp.below hb
  replace hb0 := below_next hb0 hb
  clear hb
  go_wp2_with (first | ((with_reducible refine wp_load_box_g rfl _ rfl ?_); refine ⟨_, _, rfl, (by assumption), ?_⟩) | ((with_reducible refine wp_load_box rfl _ rfl ?_); refine ⟨_, _, rfl, (by assumption), ?_⟩) | fail)
  refine (both14_eq (upd T.firstP (1 + 37) 12) true false [(4, 0)] true _ T.aw1_ok (HT.out _ hb0) T.aw1_l (by decide) (by decide +kernel)).mono ?_
  rintro e u ⟨rfl, hb⟩
  replace hp := hp.below hb
  replace hb0 := below_next hb0 hb
  clear hb
  go_wp2_with (first | ((with_reducible refine wp_load_box_g rfl _ rfl ?_); refine ⟨_, _, rfl, (by assumption), ?_⟩) | ((with_reducible refine wp_load_box rfl _ rfl ?_); refine ⟨_, _, rfl, (by assumption), ?_⟩) | fail)
  refine (with14_any T.firstP 33 12 _ (by decide)).mono ?_
  rintro e u ⟨rfl, hb⟩
  replace hp := hp.below hb
  replace hb0 := below_next hb0 hb
  clear hb
  go_wp2_with (first | ((with_reducible refine wp_load_box_g rfl _ rfl ?_); refine ⟨_, _, rfl, (by assumption), ?_⟩) | ((with_reducible refine wp_load_box rfl _ rfl ?_); refine ⟨_, _, rfl, (by assumption), ?_⟩) | fail)
  refine (both14_eq (upd T.firstP (1 + 33) 12) true true [(4, 0), (4, 7)] true _ T.aw2_ok (HT.out _ hb0) T.aw2_l (by decide) (by decide +kernel)).mono ?_
  rintro e u ⟨rfl, hb⟩
  replace hp := hp.below hb
  replace hb0 := below_next hb0 hb
  clear hb
  go_wp2_with (first | ((with_reducible refine wp_load_box_g rfl _ rfl ?_); refine ⟨_, _, rfl, (by assumption), ?_⟩) | ((with_reducible refine wp_load_box rfl _ rfl ?_); refine ⟨_, _, rfl, (by assumption), ?_⟩) | fail)
  refine (with14_any T.firstP 36 12 _ (by decide)).mono ?_
  rintro e u ⟨rfl, hb⟩
  replace hp := hp.below hb
  replace hb0 := below_next hb0 hb
  clear hb
  go_wp2_with (first | ((with_reducible refine wp_load_box_g rfl _ rfl ?_); refine ⟨_, _, rfl, (by assumption), ?_⟩) | ((with_reducible refine wp_load_box rfl _ rfl ?_); refine ⟨_, _, rfl, (by assumption), ?_⟩) | fail)
  refine (both14_eq (upd T.firstP (1 + 36) 12) false false [] true _ T.aw3_ok (HT.out _ hb0) T.aw3_l (by decide) (by decide +kernel)).mono ?_
  rintro e u ⟨rfl, hb⟩
  replace hp := hp.below hb
  replace hb0 := below_next hb0 hb
  clear hb
  go_wp2_with (first | ((with_reducible refine wp_load_box_g rfl _ rfl ?_); refine ⟨_, _, rfl, (by assumption), ?_⟩) | ((with_reducible refine wp_load_box rfl _ rfl ?_); refine ⟨_, _, rfl, (by assumption), ?_⟩) | fail)
  refine (with14_any T.firstP 1 2 _ (by decide)).mono ?_
  rintro e u ⟨rfl, hb⟩
  replace hp := hp.below hb
  replace hb0 := below_next hb0 hb
  clear hb
  go_wp2_with (first | ((with_reducible refine wp_load_box_g rfl _ rfl ?_); refine ⟨_, _, rfl, (by assumption), ?_⟩) | ((with_reducible refine wp_load_box rfl _ rfl ?_); refine ⟨_, _, rfl, (by assumption), ?_⟩) | fail)
  refine (both14_eq (upd T.firstP (1 + 1) 2) false true [(4, 7)] true _ T.aw4_ok (HT.out _ hb0) T.aw4_l (by decide) (by decide +kernel)).mono ?_
  rintro e u ⟨rfl, hb⟩
  replace hp := hp.below hb
  replace hb0 := below_next hb0 hb
  clear hb
  go_wp2
  go_ret
  exact ⟨rfl, hb0⟩

end Go.Proofs.YtnkkhdcjbjiimaaDoor
