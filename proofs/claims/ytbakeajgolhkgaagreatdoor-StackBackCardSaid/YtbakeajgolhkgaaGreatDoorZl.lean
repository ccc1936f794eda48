import Derived.Test.YtbakeajgolhkgaaGreatDoorZc
set_option maxRecDepth 100000
namespace Go.Proofs.YtbakeajgolhkgaaGreatDoor
open Go.RowKit Go.Sort
variable {P:Program} {ops:Array Oper} {Q:Exit→Act→World→Prop} {md:Region.Mode} {S:World→Prop} {fuel:Nat} {listed l':Array Bool} {a a':Act} {w:World}
theorem te (i:Nat) (d:Option Tmp) (v:Value) (hy:YieldsIf P ops S (ops.getD i default) v a) (hS:S w)
  (h:wpAnyH P md ops Q S fuel l' a' w) (ha:a.put d v = a':=by simp only [Act.put,sA,sB,sC];exact rfl) (hl:listed.setIfInBounds i true = l':=by first | (simp only [sA,sB,sC];exact rfl) | exact rfl) (ho:Nat.blt i ops.size = true:=by kernel_rfl) (hd:(ops.getD i default).dst = d:=by kernel_rfl)
  (hs:Region.noSelect ops = true:=by kernel_rfl) (hf:Region.free md ops listed i = true:=by kernel_rfl) (hr:(Region.ready md ops listed).contains i = true:=by kernel_rfl)
  (hQ:∀ c a w,Q (.panic c) (a.put d v) w → Q (.panic c) a w:=by exact fun _ _ _ h=>h):wpAnyH P md ops Q S (fuel + 1) listed a w :=
 takeD i d v ho hd hs hf hr hQ hy hS (by subst ha hl;exact h)
theorem tq (i:Nat) (d:Tmp) (v:Value) (hS:S w)
  (h:wpAnyH P md ops Q S fuel l' a' w) (ha:a.put (some d) v = a':=by simp only [Act.put,sA,sB,sC];exact rfl) (hl:listed.setIfInBounds i true = l':=by first | (simp only [sA,sB,sC];exact rfl) | exact rfl) (ho:Nat.blt i ops.size = true:=by kernel_rfl) (hd:(ops.getD i default).dst = some d:=by kernel_rfl)
  (hs:Region.noSelect ops = true:=by kernel_rfl) (hf:Region.free md ops listed i = true:=by kernel_rfl) (hr:(Region.ready md ops listed).contains i = true:=by kernel_rfl)
  (hQ:∀ c a w,Q (.panic c) (a.put (some d) v) w → Q (.panic c) a w:=by exact fun _ _ _ h=>h)
  (hw:Region.wanted (ops.getD i default) (yielded ops a.tmps) = true:=by kernel_rfl) (he:∀ w,(execOp a.eval (ops.getD i default)).run P w = .ok (.value v) w:=by exact fun _=>by kernel_rfl):wpAnyH P md ops Q S (fuel + 1) listed a w :=
 takeD i (some d) v ho hd hs hf hr hQ (zo hw he rfl) hS (by subst ha hl;exact h)
theorem tf (i:Nat) (d:Option Tmp) (f:FuncId) (args:Array Value) (v:Value) (R:World→Prop)
  (hc:Calls P f args w fun e w'=>e = .returned v ∧ R w') (h:∀ w',R w' → S w' ∧ wpAnyH P md ops Q S fuel l' a' w') (ha:a.put d v = a':=by simp only [Act.put,sA,sB,sC];exact rfl) (hl:listed.setIfInBounds i true = l':=by first | (simp only [sA,sB,sC];exact rfl) | exact rfl)
  (ho:Nat.blt i ops.size = true:=by kernel_rfl) (hr:Region.ready md ops listed = [i]:=by kernel_rfl) (hw:Region.wanted (ops.getD i default) (yielded ops a.tmps) = true:=by kernel_rfl)
  (hd:(ops.getD i default).dst = d:=by kernel_rfl) (he:(execOp a.eval (ops.getD i default)).run P w = .ok (.enter f args) w:=by kernel_rfl):wpAnyH P md ops Q S (fuel + 1) listed a w :=
 takeCall i d f args v R ho hr hw hd he hc (by subst ha hl;exact h)
end Go.Proofs.YtbakeajgolhkgaaGreatDoor
