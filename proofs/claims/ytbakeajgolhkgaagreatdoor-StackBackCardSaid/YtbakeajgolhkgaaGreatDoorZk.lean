import Derived.Test.YtbakeajgolhkgaaGreatDoorProg
import Derived.WalkKit
import Derived.Below
import Derived.BigQuiet
set_option maxRecDepth 100000
namespace Go.Proofs.YtbakeajgolhkgaaGreatDoor
open Go.RowKit
theorem kr {P:Prop} (h:P:=by kernel_rfl):P:=h
theorem om {P:Prop} (h:P:=by omega):P:=h
theorem dc {P:Prop} (h:P:=by decide):P:=h
theorem sp {P:Prop} (h:P:=by simp):P:=h
theorem asm {P:Prop} (h:P:=by assumption):P:=h
abbrev cR (f:FuncId) (a:Array Value) (w:World) (v:Value) (R:World→Prop):Prop:=Calls Tryz.prog f a w fun e w'=>e = .returned v ∧ R w'
abbrev cB (f:FuncId) (a:Array Value) (w:World) (v:Value):Prop:=Calls Tryz.prog f a w fun e w'=>e = .returned v ∧ Below w.heap.size w w'
theorem bA {w:World} {o:Obj}:Below w.heap.size w (w.alloc o):=(Below.refl _ _).alloc (Nat.le_refl _) _
end Go.Proofs.YtbakeajgolhkgaaGreatDoor
