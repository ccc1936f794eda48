/- The program's package attack: Checkers. -/
import Derived.Test.YtdfgpbighadplaaDoorChecks
namespace Go.Proofs.YtdfgpbighadplaaDoor
open Go.RowKit Go.Sort

theorem wp_load_pos_g {ops : Array Oper} {rest : List Oper} {o : Oper} {a : Act} {w : World} {Q : Exit → Act → World → Prop} (hw : Region.wanted o (yielded ops a.tmps) = true) (x : Operand) (ho : o.op = .load 31 x)
    (c : Nat → Int) (hx : ∃ g t fr, a.eval x = .pointer (some ⟨g, 0, none⟩) ∧ w.heap[g]? = some (.cells (posC c) t fr))
    (h : wpList Tryd.prog ops Q rest (a.put o.dst (.agg (posC c))) w) : wpList Tryd.prog ops Q (o :: rest) a w := by
  obtain ⟨g, t, fr, h1, hg⟩ := hx
  refine wpList_step fun K hK => ?_
  rw [if_pos hw]
  exact wp_load_row 31 x ho g h1 t (posC c) fr _ hg Tryd.underlying31 rfl (posC_info c) (hK _ _ h)

def K.check (c : Nat → Int) (color : Int) : Bool := K.kingOk c color && K.on c (K.kingAt c color) (K.oc color)
def K.checkers (c : Nat → Int) : BitVec 64 := if K.kingOk c (c 78) then K.by c (K.kingAt c (c 78)) (K.oc (c 78)) else 0#64

theorem aking_eq (c : Nat → Int) (color : Int) (b : Bool) (w : World) (hc : BdOk c) (hT : Tb w) (hv : 0 ≤ c 0) (h0 : 0 ≤ color) (h : K.kingOk c color = b) :
    Calls Tryd.prog 32 #[.agg (posC c), .int .u8 color] w fun e w' => e = .returned (.tuple #[.int .i64 (K.kingAt c color), .bool b]) ∧ Below w.heap.size w w' := by
  rw [← h]; exact aking_any c color w hc hT hv h0

set_option maxRecDepth 100000 in
set_option maxHeartbeats 1000000 in
theorem check_any (c : Nat → Int) (color : Int) (w : World) (hc : BdOk c) (hT : Tb w) (hv : 0 ≤ c 0) (h0 : 0 ≤ color) :
    Calls Tryd.prog 16 #[.agg (posC c), .int .u8 color] w fun e w' => e = .returned (.bool (K.check c color)) ∧ Below w.heap.size w w' := by
  have Hc := Lib.hid hc
  have HT := Lib.hid (tb_below hT ((Below.refl w.heap.size w).alloc (Nat.le_refl _) (.cells (posC c) 31)))
  clear hc hT
  cases hk : K.kingOk c color
  · have e := Lib.hid (show K.check c color = false by unfold K.check; rw [hk]; rfl)
    go_enter Tryd.func16, Tryd.ntmps16
    go_wp2_with (first | ((with_reducible refine wp_load_pos rfl _ rfl c ?_ ?_); · (exact ⟨_, _, _, rfl, heap_alloc_new _ _⟩)) | (go_at_call 32; refine (aking_eq c _ false _ Hc.out HT.out hv h0 hk).mono ?_; rintro e w1 ⟨rfl, hb1⟩))
    go_ret
    exact ⟨ret_bool e.out.symm, ((Below.refl _ _).alloc (Nat.le_refl _) _).trans (hb1.mono (by simp))⟩
  · have e := Lib.hid (show K.check c color = K.on c (K.kingAt c color) (K.oc color) by unfold K.check; rw [hk]; rfl)
    unfold K.oc at e
    go_enter Tryd.func16, Tryd.ntmps16
    go_wp2_with (first | ((with_reducible refine wp_load_pos_g rfl _ rfl c ?_ ?_); · (exact ⟨_, _, _, rfl, (hb1.block _ (by simp)).trans (heap_alloc_new _ _)⟩)) | ((with_reducible refine wp_load_pos rfl _ rfl c ?_ ?_); · (exact ⟨_, _, _, rfl, by first | exact heap_alloc_new _ _ | exact (hb1.block _ (by simp)).trans (heap_alloc_new _ _)⟩)) | (go_at_call 32; refine (aking_eq c _ true _ Hc.out HT.out hv h0 hk).mono ?_; rintro e w1 ⟨rfl, hb1⟩) | (go_at_call 12; refine (on_any c _ _ _ Hc.out (tb_below HT.out hb1)).mono ?_; rintro e w2 ⟨rfl, hb2⟩))
    go_ret
    exact ⟨ret_bool e.out.symm, ((Below.refl _ _).alloc (Nat.le_refl _) _).trans ((below_next hb1 hb2).mono (by simp))⟩

set_option maxRecDepth 100000 in
set_option maxHeartbeats 1000000 in
theorem checkers_any (c : Nat → Int) (w : World) (hc : BdOk c) (hT : Tb w) (hv : 0 ≤ c 0) (h0 : 0 ≤ c 78) :
    Calls Tryd.prog 18 #[.agg (posC c)] w fun e w' => e = .returned (.int .u64 (U (K.checkers c))) ∧ Below w.heap.size w w' := by
  have Hc := Lib.hid hc
  have HT := Lib.hid (tb_below hT ((Below.refl w.heap.size w).alloc (Nat.le_refl _) (.cells (posC c) 31)))
  clear hc hT
  cases hk : K.kingOk c (c 78)
  · have e := Lib.hid (show K.checkers c = 0#64 by unfold K.checkers; rw [hk]; rfl)
    go_enter Tryd.func18, Tryd.ntmps18
    go_wp2_with (first | ((with_reducible refine wp_load_pos rfl _ rfl c ?_ ?_); · (exact ⟨_, _, _, rfl, heap_alloc_new _ _⟩)) | (go_at_call 32; refine (aking_eq c _ false _ Hc.out HT.out hv h0 hk).mono ?_; rintro e w1 ⟨rfl, hb1⟩))
    go_ret
    exact ⟨ret_int (by rw [e.out]; rfl), ((Below.refl _ _).alloc (Nat.le_refl _) _).trans (hb1.mono (by simp))⟩
  · have e := Lib.hid (show K.checkers c = K.by c (K.kingAt c (c 78)) (K.oc (c 78)) by unfold K.checkers; rw [hk]; rfl)
    unfold K.oc at e
    have hcv : ∀ w1 : World, Below (w.alloc (.cells (posC c) 31)).heap.size (w.alloc (.cells (posC c) 31)) w1 → w1.cell? ⟨w.heap.size, 78, none⟩ = some (.int .u8 (c 78)) := fun w1 hb => by
      have hp : w1.heap[w.heap.size]? = some (.cells (posC c) 31 (0, 0)) := (hb.block _ (by simp)).trans (heap_alloc_new _ _)
      simp only [World.cell?, hp]; exact posC_78 c
    go_enter Tryd.func18, Tryd.ntmps18
    go_wp2_with (first | ((with_reducible refine wp_load_pos rfl _ rfl c ?_ ?_); · (exact ⟨_, _, _, rfl, by first | exact heap_alloc_new _ _ | exact (hb1.block _ (by simp)).trans (heap_alloc_new _ _)⟩)) | (go_at_call 32; refine (aking_eq c _ true _ Hc.out HT.out hv h0 hk).mono ?_; rintro e w1 ⟨rfl, hb1⟩; have hcw := hcv _ hb1) | (go_at_call 11; refine (by_any c _ _ _ Hc.out (tb_below HT.out hb1)).mono ?_; rintro e w2 ⟨rfl, hb2⟩))
    go_ret
    exact ⟨ret_int (by rw [e.out]), ((Below.refl _ _).alloc (Nat.le_refl _) _).trans ((below_next hb1 hb2).mono (by simp))⟩

end Go.Proofs.YtdfgpbighadplaaDoor
