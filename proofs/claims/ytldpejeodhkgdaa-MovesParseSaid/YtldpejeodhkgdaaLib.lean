/- Small lemmas that the walks of this seat share. No program in sight. -/
import Derived.WalkKit
import Derived.WalkSpells
import Derived.WalkLawsBesides
import Derived.Lib.Hide
import Derived.Deep.QuietTactic
import Derived.BigQuiet
namespace Go.Proofs.Ytldpejeodhkgdaa
open Go.RowKit

theorem ret_int {k : IntKind} {a b : Int} (h : a = b) : Ending.returned (.int k a) = .returned (.int k b) := by rw [h]
theorem ret_bool {a b : Bool} (h : a = b) : Ending.returned (.bool a) = .returned (.bool b) := by rw [h]
theorem ret_str {a b : ByteArray} (h : a = b) : Ending.returned (.string a) = .returned (.string b) := by rw [h]

/-- A slice of one-cell elements that is owned and not empty: its block, its cells, that they may be written. -/
theorem owns_open {w : World} {base : Nat} {e : TypeId} {v : Value} {n : Nat} {xs : List Value} (h : w.ownsRow base e 1 v n xs) (hn : 0 < n) :
    ∃ b cap, v = .slice (some ⟨b, 0, none⟩) n cap ∧ base ≤ b ∧ b < w.heap.size ∧ n ≤ cap ∧ (∀ j u, xs[j]? = some u → w.cell? ⟨b, j, none⟩ = some u) ∧ ∀ j, w.frozen? ⟨b, j, none⟩ = false := by
  rcases h.2 with ⟨_, rfl⟩ | ⟨g, cap, cur, rfl, hb, hg, hnc, hcm, hcs, htake⟩
  · omega
  · refine ⟨g, cap, rfl, hb, (Array.getElem?_eq_some_iff.1 hg).1, hnc, ?_, ?_⟩
    · intro j u hu
      rw [← htake, List.getElem?_take] at hu
      split at hu
      · simp only [World.cell?, hg]
        simpa using hu
      · cases hu
    · intro j
      simp [World.frozen?, hg]

/-- What lies below stays so, one call behind the other. -/
theorem below_next {w a b : World} (h : Below w.heap.size w a) (k : Below a.heap.size a b) : Below w.heap.size w b := h.trans (k.mono h.size)
theorem frozen_of {W W' : World} (hz : ∀ a : Addr, W.heap.size ≤ a.block → W.frozen? a = false) (hb : Below W.heap.size W W') (hz' : ∀ a : Addr, W.heap.size ≤ a.block → W'.frozen? a = false) (a : Addr) : W'.frozen? a = W.frozen? a := by
  by_cases h : a.block < W.heap.size
  · exact hb.frozen h
  · rw [hz a (by omega), hz' a (by omega)]

/-- A contract of a callee that leaves the world alone, in a region that draws its order. -/
theorem quiet_same {P : Program} {f : FuncId} {args : Array Value} {w : World} {n : Nat} {v : Value}
    (h : Calls P f args (w.drewN n) fun e w' => e = .returned v ∧ w.drewN n = w') : Calls P f args (w.drewN n) fun e w'' => e = .returned v ∧ ∃ m, w'' = w.drewN m :=
  Calls.quiet_of_same (h.mono fun _ _ ⟨a, b⟩ => ⟨a, b.symm⟩)
theorem below_drewN {B : Nat} {w w' : World} (h : Below B w w') (n : Nat) : Below B w (w'.drewN n) := ⟨h.os, h.tape, h.output, h.size, h.block⟩

/-- Every number of a byte, by trying all. -/
theorem all8 (q : Int → Prop) (h : ∀ n : Fin 256, q ((n.val : Nat) : Int)) (p : Int) (h0 : 0 ≤ p) (h1 : p ≤ 255) : q p := by
  have := h ⟨p.toNat, by omega⟩
  simpa [Int.toNat_of_nonneg h0] using this

end Go.Proofs.Ytldpejeodhkgdaa
