/- What the tied card's condition gives: the library's table lies in its variable; the heap that the door's own run leaves meets it. -/
import Derived.Test.YtdfgpbighadplaaDoorRows
import Derived.WalkKit
import Derived.ProofKit
import Derived.LaidMore
import Derived.OpenShut
import Derived.Stop.Joined
import Derived.SevenTiedAt
import Derived.Test.YtdfgpbighadplaaDoorSlides
namespace Go.Proofs.YtdfgpbighadplaaDoor
open Go.ChangeShapes Go.WideShapes Go.ChangeAt Go.RowKit
open Go.WideMaps Go.WideElems

theorem gTab : Tryd.prog.globalNamed "math/bits.deBruijn64tab" = some 0 := by kernel_rfl
theorem tTab : (Tryd.prog.globals[0]?).map (·.type) = some 22 := by kernel_rfl
theorem tabD {H : Type} : (Rows.laid_math_bits_deBruijn64tab : DataW H) = .agg (Lib.deBruijn64tab.map fun (n : Nat) => .lit (.int .u8 (n : Int))) := rfl
theorem cTab : Tryd.prog.cellsOf 5 = 1 := by kernel_rfl

theorem door_met (os : Os) (args : Array Value) : laidMetH Tryd.prog [("math/bits.deBruijn64tab", Rows.laid_math_bits_deBruijn64tab)] ((World.doorLaid Tryd.prog 400 os).forCall (fun _ _ => 0) ⟨#[], args, []⟩).memory :=
  laidMetH_of_parts3 (fuel := 8) (laidMet_of_run' 8 (by kernel_rfl) (by kernel_rfl)) (by kernel_rfl) (by kernel_rfl)

theorem tb_of_laid {W : World} (h : laidMetH Tryd.prog [("math/bits.deBruijn64tab", Rows.laid_math_bits_deBruijn64tab)] W) : Tb W := by
  rw [MakeChecks.laidMetH_plain _ _ _ (by kernel_rfl)] at h
  obtain ⟨ps, ⟨g0, t0, cs0, f0, p0, q0, hg0, ht0, hv0, hd0, _, _⟩, _, _⟩ := h
  obtain rfl := Option.some.inj (gTab.symm.trans hg0)
  obtain rfl := Option.some.inj (tTab.symm.trans ht0)
  obtain ⟨xs, m, rfl, hx, hlen, hn, hel⟩ := DataW.trod_array Tryd.underlying22 hd0
  simp only [Prod.mk.injEq] at hx
  rw [tabD] at hx
  have hxs : xs.map (·.1) = Lib.deBruijn64tab.map fun (n : Nat) => (.lit (.int .u8 (n : Int))) := (DataW.agg.inj hx.1).symm
  intro j hj
  have hj64 : j < 64 := hj
  have h1 := hel j hj64
  rw [cTab, Nat.mul_one] at h1
  rw [World.var?_cell hg0 hv0 j]
  have hxj : ∃ x, xs[j]? = some x := ⟨_, List.getElem?_eq_getElem (by omega)⟩
  obtain ⟨x, hx1⟩ := hxj
  rw [hx1] at h1
  obtain ⟨k, e1, e2, _⟩ := DataW.trod_int Tryd.underlying5 h1
  have h2 := congrArg (·[j]?) hxs
  simp only [List.getElem?_map, hx1, Option.map_some] at h2
  rw [List.getElem?_eq_getElem hj] at h2
  simp only [Option.map_some, Option.some.injEq] at h2
  rw [e2] at h2
  have hk : k = ((Lib.deBruijn64tab[j] : Nat) : Int) := by
    injection h2 with h2
    injection h2
  have h3 : cs0.toList[j]? = some (.int .u8 k) := by
    have := congrArg (·[0]?) e1
    simpa [List.getElem?_take, List.getElem?_drop] using this
  rw [Array.getElem?_toList] at h3
  rw [h3, hk, List.getD_eq_getElem?_getD, List.getElem?_eq_getElem hj]
  rfl

/-- No parameter's type wants a stand-in. -/
theorem plain_params (l : List TypeId) (h : l.all (fun t => !Tryd.prog.wantsStandIn t) = true) (j : Nat) (t : TypeId) (ht : l.toArray[j]? = some t) : Tryd.prog.wantsStandIn t = false := by
  rw [List.getElem?_toArray] at ht
  have := List.all_eq_true.1 h t (List.mem_of_getElem? ht)
  simpa using this

end Go.Proofs.YtdfgpbighadplaaDoor
