/- Several texts in one: Pins, PinsOf, PinsOn. -/

import Derived.Test.YtgkndhpolcnjbaaGreatDoorZt
import Derived.Test.YtgkndhpolcnjbaaGreatDoorZd
namespace Go.Proofs.YtgkndhpolcnjbaaGreatDoor
open Go.RowKit Go.Sort
namespace N
def pinV (x : Int × Int × BitVec 64) : List Value := [.int .i64 x.1, .int .i64 x.2.1, .int .u64 (U x.2.2)]
def cells (l : List (Int × Int × BitVec 64)) : List Value := l.flatMap pinV
theorem cells_len (l : List (Int × Int × BitVec 64)) : (cells l).length = l.length * 3 := by
  unfold cells
  induction l with
  | nil => rfl
  | cons a l ih => rw [List.flatMap_cons, List.length_append, ih]; simp [pinV]; omega
theorem cells_snoc (l : List (Int × Int × BitVec 64)) (x : Int × Int × BitVec 64) : cells (l ++ [x]) = cells l ++ pinV x := by simp [cells]
theorem cells_at (l : List (Int × Int × BitVec 64)) (i : Nat) (x : Int × Int × BitVec 64) (h : l[i]? = some x) (j : Nat) (v : Value) (hv : (pinV x)[j]? = some v) : (cells l)[i * 3 + j]? = some v := by
  induction l generalizing i with
  | nil => cases h
  | cons a l ih =>
    unfold cells
    rw [List.flatMap_cons]
    cases i with
    | zero =>
      simp at h
      subst h
      have : j < (pinV a).length := (List.getElem?_eq_some_iff.1 hv).1
      rw [List.getElem?_append_left (by omega), Nat.zero_mul, Nat.zero_add, hv]
    | succ i =>
      rw [List.getElem?_append_right (by simp [pinV]; omega), show (i + 1) * 3 + j - (pinV a).length = i * 3 + j by simp [pinV]; omega]
      exact ih i (by simpa using h)
def upTo (c : Nat → Int) (color k : Int) (n : Nat) : List (Int × Int × BitVec 64) := (List.range n).filterMap (res c color k)
theorem upTo_succ (c : Nat → Int) (color k : Int) (n : Nat) : upTo c color k (n + 1) = upTo c color k n ++ (match res c color k n with | some x => [x] | none => []) := by
  unfold upTo
  rw [List.range_succ, List.filterMap_append]
  congr 1
  cases h : res c color k n <;> simp [h]
theorem upTo_len (c : Nat → Int) (color k : Int) (n : Nat) : (upTo c color k n).length ≤ n := by
  have := List.length_filterMap_le (res c color k) (List.range n)
  simpa [upTo] using this
/-- A color's pins. -/
def pins (c : Nat → Int) (color : Int) : List (Int × Int × BitVec 64) := if color ≤ 1 ∧ 0 ≤ S.find c color 6 then upTo c color (S.find c color 6) 8 else []
def End (T : TypeId) (l : List (Int × Int × BitVec 64)) (w : World) (e : Ending) (w' : World) : Prop := ∃ v, e = .returned v ∧ w'.ownsRow (w.heap.size + 1) T 3 v l.length (cells l) ∧ Below w.heap.size w w'
end N
end Go.Proofs.YtgkndhpolcnjbaaGreatDoor
namespace Go.Proofs.YtgkndhpolcnjbaaGreatDoor
open Go.RowKit Go.Sort
namespace N
/-- The men of some pins, as a set. -/
def men (l : List (Int × Int × BitVec 64)) : BitVec 64 := l.foldl (fun b x => bOr b (B.one x.1)) 0#64
end N
end Go.Proofs.YtgkndhpolcnjbaaGreatDoor
namespace Go.Proofs.YtgkndhpolcnjbaaGreatDoor
open Go.RowKit Go.Sort
namespace N
def at' (l : List (Int × Int × BitVec 64)) (s : Int) : Option (Int × Int × BitVec 64) := l.find? fun x => x.1 == s
def no : Int × Int × BitVec 64 := (0, 0, 0#64)
def on (c : Nat → Int) (s : Int) : Option (Int × Int × BitVec 64) := (at' (pins c 0) s).or (at' (pins c 1) s)
/-- Nothing among the first n. -/
def noneTo (l : List (Int × Int × BitVec 64)) (s : Int) (n : Nat) : Prop := ∀ x ∈ l.take n, (x.1 == s) = false
theorem noneTo_succ {l : List (Int × Int × BitVec 64)} {s : Int} {n : Nat} {x : Int × Int × BitVec 64} (h : noneTo l s n) (hx : l[n]? = some x) (hn : (x.1 == s) = false) : noneTo l s (n + 1) := fun y hy => by
  rw [List.take_add_one, hx] at hy
  rcases List.mem_append.1 hy with h1 | h1
  · exact h y h1
  · simp at h1; rw [h1]; exact hn
end N
theorem results_cell_tmp {P : Program} {fn : Func} {p q : Tmp} {ty : TypeId} (h : fn.results = #[.cell p ty, .tmp q]) (tmps : Array Value) (w : World) (g : Nat) (t : TypeId) (cs : Array Value) (d : TypeDesc) (v : Value)
    (hp : tmps.getD p undef = .pointer (some ⟨g, 0, none⟩)) (hv : tmps.getD q undef = v) (hg : RowAt w g t cs)
    (hu : P.underlying ty = some d) (hd : (match d with | .struct _ | .array _ _ => true | _ => false) = true) (hi : (P.info? ty).map (·.size) = some cs.size) :
    (results fn tmps).run P w = .ok (.tuple #[.agg cs, v]) w := by
  have hp' : tmps[p]?.getD undef = .pointer (some ⟨g, 0, none⟩) := by simpa using hp
  have hv' : tmps[q]?.getD undef = v := by simpa using hv
  simp [results, h, hp', hv', asAddr, run_loadVar_row w g t ty cs (0, 0) d hg.heap hu hd hi]
/-- None of the first colors has such a pin. -/
def N.done (c : Nat → Int) (s : Int) (k : Nat) : Prop := ∀ j : Nat, j < k → N.at' (N.pins c (j : Int)) s = none
end Go.Proofs.YtgkndhpolcnjbaaGreatDoor
