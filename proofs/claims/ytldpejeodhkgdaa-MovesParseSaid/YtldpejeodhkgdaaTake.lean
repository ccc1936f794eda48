/- A drawn region, its operations taken one by one, each by its number: what the kernel can settle is left to it. No program in sight but the loads of single cells. -/
import Derived.Test.YtldpejeodhkgdaaRow
import Derived.OrdersHeld
import Derived.Deep.MidRow
namespace Go.Proofs.Ytldpejeodhkgdaa
open Go.RowKit Go.Sort

section
variable {P : Program} {ops : Array Oper} {Q : Exit → Act → World → Prop} {md : Region.Mode} {S : World → Prop} {fuel : Nat} {listed : Array Bool} {a : Act} {w : World}
theorem getD_some {i : Nat} (h : Nat.blt i ops.size = true) : ops[i]? = some (ops.getD i default) := by
  have hlt : i < ops.size := by simpa using h
  rw [Array.getElem?_eq_getElem hlt, Array.getD_eq_getD_getElem?, Array.getElem?_eq_getElem hlt]; rfl
/-- Operation i is taken first; what it puts goes into slot d. -/
theorem takeD (i : Nat) (d : Option Tmp) (v : Value) (ho : Nat.blt i ops.size = true) (hd : (ops.getD i default).dst = d)
    (hs : Region.noSelect ops = true) (hf : Region.free md ops listed i = true) (hr : (Region.ready md ops listed).contains i = true)
    (hQ : ∀ c a w, Q (.panic c) (a.put d v) w → Q (.panic c) a w) (hy : YieldsIf P ops S (ops.getD i default) v a) (hS : S w)
    (h : wpAnyH P md ops Q S fuel (listed.setIfInBounds i true) (a.put d v) w) : wpAnyH P md ops Q S (fuel + 1) listed a w := by
  subst hd
  exact wpAnyH_take (getD_some ho) hs hf hr hQ hy hS h
/-- The one operation that may come up. -/
theorem takeOne (i : Nat) (ho : Nat.blt i ops.size = true) (hr : Region.ready md ops listed = [i]) (hw : Region.wanted (ops.getD i default) (yielded ops a.tmps) = true)
    (h : (ops.getD i default).wp P a w (fun a' w' => S w' ∧ wpAnyH P md ops Q S fuel (listed.setIfInBounds i true) a' w') Q) : wpAnyH P md ops Q S (fuel + 1) listed a w :=
  wpAnyH_all hr (by simp) fun j hj => by
    obtain rfl : j = i := by simpa using hj
    unfold wpOp
    rw [getD_some ho]
    simp only [hw, if_true]
    exact .inl h
theorem yi_pure {o : Oper} {v v0 : Value} (hw : Region.wanted o (yielded ops a.tmps) = true) (h : ∀ w, (execOp a.eval o).run P w = .ok (.value v0) w) (hv : v0 = v) : YieldsIf P ops S o v a :=
  .inl ⟨hw, fun w _ => by rw [h w, hv]⟩
theorem yi_none {o : Oper} (hw : Region.wanted o (yielded ops a.tmps) = false) : YieldsIf P ops S o undef a := .inr ⟨hw, rfl⟩
theorem yi_load {o : Oper} {v : Value} (hw : Region.wanted o (yielded ops a.tmps) = true) (ty : TypeId) (x : Operand) (ho : o.op = .load ty x) (p : Addr) (hx : a.eval x = .pointer (some p))
    (hl : ∀ (w : World), w.cell? p = some v → (loadVar ty p).run P w = .ok v w) (hS : ∀ w, S w → w.cell? p = some v) : YieldsIf P ops S o v a :=
  .inl ⟨hw, fun w h => by
    unfold execOp
    simp only [ho, hx, Instr.loadAt, Instr.sureAddr, Sem.run_bind, Sem.run_pure, Result.andThen_ok, hl w (hS w h)]⟩
end
theorem load_int (p : Addr) (v : Value) (w : World) (h : w.cell? p = some v) : (loadVar 3 p).run Try.prog w = .ok v w := by
  simp [go_sem, h]
theorem load_u8 (p : Addr) (v : Value) (w : World) (h : w.cell? p = some v) : (loadVar 5 p).run Try.prog w = .ok v w := by
  simp [go_sem, h]
theorem load_i8 (p : Addr) (v : Value) (w : World) (h : w.cell? p = some v) : (loadVar 26 p).run Try.prog w = .ok v w := by
  simp [go_sem, h]

end Go.Proofs.Ytldpejeodhkgdaa
