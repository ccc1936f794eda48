/- The law MovesText. -/
import Derived.Test.YtldpejeodhkgdaaDoorMvN
import Derived.Test.YtldpejeodhkgdaaDoorMvU
namespace Go.Proofs.YtldpejeodhkgdaaDoor
open Go.RowKit Go.Sort
attribute [local go_sem] Oper.semAt_some

/-- A move is loaded out of its box, in a region that draws. -/
theorem quiet_load_mvR {K : Act → Prop} {a : Act} {o : Oper} {w : World} (x : Operand) (ho : o.op = .load 33 x)
    (h : ∃ (g : Nat) (T : TypeId) (f d p q : Int) (z : Bool), a.eval x = .pointer (some ⟨g, 0, none⟩) ∧ RowAt w g T (movC f d p q z) ∧ K (a.put o.dst (.agg (movC f d p q z)))) : o.quiet Tryd.prog a (fun w' => ∃ p : Regrown, w' = grow (redrawn w p.d) p.os) K := by
  obtain ⟨g, T, f, d, p, q, z, hx, hp, hk⟩ := h
  refine ⟨.agg (movC f d p q z), fun w' hw => ?_, hk⟩
  obtain ⟨r, rfl⟩ := hw
  have hg : (grow (redrawn w r.d) r.os).heap[g]? = some (.cells (movC f d p q z) T (0, 0)) := by rw [heap_grow _ _ _ _ hp.lt]; exact hp.heap
  unfold Oper.quietAt execOp
  simp only [ho, hx, Instr.loadAt, Instr.sureAddr, Sem.run_bind, Sem.run_pure, Result.andThen_ok, run_loadVar_row _ g T 33 (movC f d p q z) (0, 0) _ hg Tryd.underlying33 rfl (Tryd.info_mvB _ _ _ _ _)]
  exact ⟨rfl, rfl⟩
set_option maxRecDepth 100000 in
set_option maxHeartbeats 1000000 in
theorem movesText_walk (c : Nat → Int) (f g x y : Int) (z : Bool) (w : World) (hc : PosOk c) (hm : MovOk f g x y) :
    Calls Tryd.prog 3 #[.agg (posC c), .agg (movC f g x y z)] w fun e w' => e = .returned (.bool true) ∧ Below w.heap.size w w' := by
  obtain ⟨S, h1, HA⟩ := mvText_fix c f g x y z hc hm
  obtain ⟨S', h2, HB⟩ := d11Text_fix c f g x y z hc hm
  obtain rfl := N.textEnd_one h1 h2
  have H1 := Lib.hid HA
  have H2 := Lib.hid HB
  have H0 := Lib.hid (PMv.start w c (movC f g x y z))
  clear h1 h2 HA HB hc hm
  go_enter Tryd.func3, Tryd.ntmps3
  go_upto_region 1 with fail
  refine region_below (by kernel_rfl) (by kernel_rfl) ?_
  try simp only [Act.put]
  repeat (first
    | (go_big_quiet_want; refine quiet_load_mvp _ rfl ⟨_, c, rfl, H0.out.p, ?_⟩; simp only [Act.put, List.setIfInBounds_toArray, List.set_cons_succ, List.set_cons_zero]; go_big_quiet_on)
    | (go_big_quiet_want; refine quiet_load_mvR _ rfl ⟨_, _, f, g, x, y, z, rfl, H0.out.m, ?_⟩; simp only [Act.put, List.setIfInBounds_toArray, List.set_cons_succ, List.set_cons_zero]; go_big_quiet_on)
    | go_big_quiet_step (first
      | (go_at_call 9; (with_reducible exact quiet_below (H1.out _)))
      | (go_at_call 10; (with_reducible exact quiet_below (H2.out _)))))
  refine wpQuiet_nil ?_
  intro w3 hb3
  have H3 := Lib.hid (H0.out.next hb3)
  clear hb3
  go_wp2
  go_ret
  exact ⟨by first | rfl | simp, H3.out.below⟩
end Go.Proofs.YtldpejeodhkgdaaDoor
