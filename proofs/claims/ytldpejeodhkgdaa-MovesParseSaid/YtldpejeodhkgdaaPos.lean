/- Positions as values: 88 cells, all integers. -/
import Derived.Test.YtldpejeodhkgdaaRows
import Derived.WalkKit
import Derived.WalkSpells
import Derived.Deep.CutBlock
import Derived.Test.YtldpejeodhkgdaaFlat
import Derived.Test.YtldpejeodhkgdaaMem
namespace Go.Proofs.Ytldpejeodhkgdaa
open Go.RowKit

/-- The kind of a position's cell. -/
def pk (i : Nat) : IntKind := if i < 65 then .u8 else if i < 66 then .u64 else if i < 79 then .u8 else if i < 84 then .i8 else if i < 86 then .u8 else .i64

def posL (c : Nat → Int) : List Value := (List.range 88).map fun i => Value.int (pk i) (c i)
/-- A position's cells. -/
def posC (c : Nat → Int) : Array Value := (posL c).toArray

theorem posC_get (c : Nat → Int) (i : Nat) (h : i < 88) : (posC c)[i]? = some (.int (pk i) (c i)) := by
  simp [posC, posL, h]

def posK : List (Option IntKind) := (List.range 88).map fun i => some (pk i)
theorem posK_len : posK.length = 88 := by decide +kernel
theorem Try.posFlat : flat Try.prog 5 31 = some posK := of_decide_eq_true (by kernel_rfl)

/-- A position that comes in. -/
def PosOk (c : Nat → Int) : Prop := ∀ i, i < 88 → (Lit.int (pk i) (c i)).wf = true

section
variable {H : Type} {enc : TypeId × Value → H} {w : World} {base : Nat} {spare : Nat → Bool} {held : Bool}
set_option maxRecDepth 100000 in
theorem open_pos {r : Reach} {b0 : Nat} {v : Value} {d : DataW H} {p : List MemPlace} (hv : Value.okWide Try.prog w r b0 31 v) (h : DataW.Trod enc Try.prog w base spare held 31 v d p) :
    ∃ c, v = .agg (posC c) ∧ p = [] ∧ PosOk c := by
  have hs : ∃ cs, v = .agg cs := (Go.WideShapes.okWide_struct (t := 31) (P := Try.prog) Try.underlying31 hv).imp fun cs h => h.1
  obtain ⟨cs, rfl, rfl, hl, hc⟩ := flat_arg Try.posFlat hs h
  have hl : cs.size = 88 := by rw [posK_len] at hl; exact hl
  have key : ∀ i, i < 88 → ∃ n, cs[i]? = some (.int (pk i) n) ∧ (Lit.int (pk i) n).wf = true := by
    intro i hi
    obtain ⟨u, hu, n, rfl, hw⟩ := hc i (some (pk i)) (by simp [posK, hi])
    exact ⟨n, by simpa using hu, hw⟩
  refine ⟨fun i => match cs[i]? with | some (.int _ n) => n | _ => 0, ?_, rfl, fun i hi => ?_⟩
  · refine congrArg Value.agg ?_
    apply Array.ext_getElem?
    intro i
    by_cases hi : i < 88
    · rw [posC_get _ i hi]
      obtain ⟨n, hn, _⟩ := key i hi
      simp only [hn]
    · rw [Array.getElem?_eq_none (by omega), Array.getElem?_eq_none (by simp [posC, posL]; omega)]
  · obtain ⟨n, hn, hw⟩ := key i hi
    simp only [hn]
    exact hw
end

@[go_sem] theorem posC_0 (c : Nat → Int) : (posC c)[0]? = some (.int .u8 (c 0)) := posC_get c 0 (by decide)
@[go_sem] theorem posC_65 (c : Nat → Int) : (posC c)[65]? = some (.int .u64 (c 65)) := posC_get c 65 (by decide)
@[go_sem] theorem posC_78 (c : Nat → Int) : (posC c)[78]? = some (.int .u8 (c 78)) := posC_get c 78 (by decide)
@[go_sem] theorem posC_83 (c : Nat → Int) : (posC c)[83]? = some (.int .i8 (c 83)) := posC_get c 83 (by decide)
theorem posC_board (c : Nat → Int) (s : Nat) (h : s < 64) : (posC c)[1 + s]? = some (.int .u8 (c (1 + s))) := by
  rw [posC_get c (1 + s) (by omega)]; unfold pk; rw [if_pos (by omega)]

def knownB (c : Nat → Int) : Bool := decide (c 0 < 9) && decide (c 78 ≤ 1)
theorem known_walk (c : Nat → Int) (w : World) :
    Calls Try.prog 6 #[.agg (posC c)] w fun e w' => e = .returned (.bool (knownB c)) ∧ Below w.heap.size w w' := by
  by_cases h : c 0 < 9
  · have hd : decide (c 0 < 9) = true := by simpa using h
    go_enter Try.func6, Try.ntmps6
    go_wp2
    go_ret
    exact ⟨ret_bool (by rw [knownB, hd, Bool.true_and]), (Below.refl _ _).alloc (Nat.le_refl _) _⟩
  · have hd : decide (c 0 < 9) = false := by simpa using h
    go_enter Try.func6, Try.ntmps6
    go_wp2
    go_ret
    exact ⟨ret_bool (by rw [knownB, hd, Bool.false_and]), (Below.refl _ _).alloc (Nat.le_refl _) _⟩

theorem posC_size (c : Nat → Int) : (posC c).size = 88 := by simp [posC, posL]
theorem Try.infoPos : (Try.prog.info? 31).map (·.size) = some 88 := by kernel_rfl
theorem posC_info (c : Nat → Int) : (Try.prog.info? 31).map (·.size) = some (posC c).size := by rw [Try.infoPos, posC_size]
/-- A whole position is loaded out of its box. -/
theorem wp_load_pos {ops : Array Oper} {rest : List Oper} {o : Oper} {a : Act} {w : World} {Q : Exit → Act → World → Prop} (hgd : o.guard = none) (x : Operand) (ho : o.op = .load 31 x)
    (c : Nat → Int) (hx : ∃ g t fr, a.eval x = .pointer (some ⟨g, 0, none⟩) ∧ w.heap[g]? = some (.cells (posC c) t fr))
    (h : wpList Try.prog ops Q rest (a.put o.dst (.agg (posC c))) w) : wpList Try.prog ops Q (o :: rest) a w :=
  let ⟨g, t, fr, h1, hg⟩ := hx
  wpList_load_row hgd 31 x ho g h1 t (posC c) fr _ hg Try.underlying31 rfl (posC_info c) h

/-- .. in a region that draws its order. -/
theorem quiet_load_pos {C : World → Prop} {K : Act → Prop} {a : Act} {o : Oper} (x : Operand) (ho : o.op = .load 31 x) (c : Nat → Int)
    (hx : ∃ g t fr, a.eval x = .pointer (some ⟨g, 0, none⟩) ∧ ∀ w, C w → w.heap[g]? = some (.cells (posC c) t fr)) (hk : K (a.put o.dst (.agg (posC c)))) : o.quiet Try.prog a C K := by
  obtain ⟨g, t, fr, h1, hg⟩ := hx
  refine ⟨.agg (posC c), fun w hw => ?_, hk⟩
  unfold Oper.quietAt execOp
  simp only [ho, h1, Instr.loadAt, Instr.sureAddr, Sem.run_bind, Sem.run_pure, Result.andThen_ok, run_loadVar_row w g t 31 (posC c) fr _ (hg w hw) Try.underlying31 rfl (posC_info c)]
  exact ⟨rfl, rfl⟩

end Go.Proofs.Ytldpejeodhkgdaa
