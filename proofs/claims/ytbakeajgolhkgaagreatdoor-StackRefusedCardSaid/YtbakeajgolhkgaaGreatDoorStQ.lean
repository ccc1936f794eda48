/- The laws of layer 20: moves by numbers, played; rows of numbers read. -/
import Derived.Test.YtbakeajgolhkgaaGreatDoorYbn
import Derived.ChangeSlices
import Derived.Deep.Slices
namespace Go.Proofs.YtbakeajgolhkgaaGreatDoor
open Go.RowKit Go.Sort Go.ChangeShapes Go.WideShapes Go.Deep

namespace Sk
/-- The position behind so many moves by numbers. -/
def run (c : Nat → Int) (x : Nat → Int) : Nat → Nat → Int
  | 0 => c
  | k + 1 => G.next (run c x k) (nth (run c x k) (x k))
/-- The move by a number may be made. -/
def can (c : Nat → Int) (x : Nat → Int) (k : Nat) : Bool := some' (run c x k) && decide ((G.outcome (run c x k)).1 = 0)
theorem run_add (c : Nat → Int) (x : Nat → Int) (a : Nat) : ∀ b, run (run c x a) (fun i => x (a + i)) b = run c x (a + b)
  | 0 => rfl
  | b + 1 => by
    show G.next (run (run c x a) (fun i => x (a + i)) b) (nth (run (run c x a) (fun i => x (a + i)) b) (x (a + b))) = G.next (run c x (a + b)) (nth (run c x (a + b)) (x (a + b)))
    rw [run_add c x a b]
theorem can_add (c : Nat → Int) (x : Nat → Int) (a b : Nat) : can (run c x a) (fun i => x (a + i)) b = can c x (a + b) := by unfold can; rw [run_add]
/-- A row of numbers is read there. -/
def Ints (B : Nat) (w : World) (v : Value) (N : Nat) (x : Nat → Int) : Prop := ∃ (ao : Option Addr) (cap : Nat), v = .slice ao N cap ∧ N ≤ cap ∧ cap ≤ maxLen ∧ (ao = none → cap = 0) ∧ (0 < N → ∃ b off, ao = some ⟨b, off, none⟩ ∧ b < B ∧ ∀ i, i < N → w.cell? ⟨b, off + i, none⟩ = some (.int .i64 (x i)))
theorem Ints.below {B : Nat} {w w' : World} {v : Value} {N : Nat} {x : Nat → Int} (h : Ints B w v N x) (hb : Below B w w') : Ints B w' v N x := by
  obtain ⟨ao, cap, h1, h2, h3, h4, h5⟩ := h
  refine ⟨ao, cap, h1, h2, h3, h4, fun h0 => ?_⟩
  obtain ⟨b, off, e, hB, hc⟩ := h5 h0
  exact ⟨b, off, e, hB, fun i hi => (World.cell?_of_block (hb.block b hB)).trans (hc i hi)⟩
/-- So many moves by numbers are played. -/
structure Ply (base : Nat) (w0 w : World) (g : Nat) (s : St) (n : Nat) (x : Nat → Int) (k : Nat) (s' : St) : Prop where
  at' : At base w g s' (n + k)
  kg : Kg base w0 w
  old : ∀ i, i ≤ n → s'.pos i = s.pos i
  oldm : ∀ i, i < n → s'.mv i = s.mv i
  new : ∀ i, i ≤ k → s'.pos (n + i) = run (s.pos n) x i
  newm : ∀ i, i < k → s'.mv (n + i) = nth (run (s.pos n) x i) (x i)
  may : ∀ i, i < k → Sk.can (s.pos n) x i = true
section
variable {base : Nat} {w0 w w' : World} {g : Nat} {s s' : St} {n : Nat} {x : Nat → Int} {k : Nat}
theorem Ply.start (h : At base w g s n) (x : Nat → Int) : Ply base w w g s n x 0 s :=
  ⟨h, Kg.refl _ _, fun _ _ => rfl, fun _ _ => rfl, fun i hi => by obtain rfl : i = 0 := by omega
                                                                  rfl, fun i hi => by omega, fun i hi => by omega⟩
theorem Ply.below (h : Ply base w0 w g s n x k s') (hb : Below w.heap.size w w') : Ply base w0 w' g s n x k s' :=
  ⟨h.at'.below hb, h.kg.trans (Kg.of_below base hb), h.old, h.oldm, h.new, h.newm, h.may⟩
theorem push_pos_old {s : St} {n i : Nat} {m : Mv} {q : Nat → Int} {lb : Nat} {F : Nat → Prop} (hi : i ≤ n) : (s.push n m q lb F).pos i = s.pos i := by
  show (if i = n + 1 then q else s.pos i) = s.pos i
  rw [if_neg (by omega)]
theorem push_mv_old {s : St} {n i : Nat} {m : Mv} {q : Nat → Int} {lb : Nat} {F : Nat → Prop} (hi : i < n) : (s.push n m q lb F).mv i = s.mv i := by
  show (if i = n then m else s.mv i) = s.mv i
  rw [if_neg (by omega)]
theorem push_mv_new {s : St} {n : Nat} {m : Mv} {q : Nat → Int} {lb : Nat} {F : Nat → Prop} : (s.push n m q lb F).mv n = m := by
  show (if n = n then m else s.mv n) = m
  rw [if_pos rfl]
theorem Ply.next {lb : Nat} {F : Nat → Prop} (h : Ply base w0 w g s n x k s') (hc : Sk.can (s.pos n) x k = true) (m : Mv) (hm : m = nth (run (s.pos n) x k) (x k))
    (ha : At base w' g (s'.push (n + k) m (G.next (s'.pos (n + k)) m) lb F) (n + k + 1)) (hk : Kg base w w') : ∃ s'', Ply base w0 w' g s n x (k + 1) s'' := by
  subst hm
  refine ⟨_, ha, h.kg.trans hk, fun i hi => ?_, fun i hi => ?_, fun i hi => ?_, fun i hi => ?_, fun i hi => ?_⟩
  · rw [push_pos_old (by omega)]; exact h.old i hi
  · rw [push_mv_old (by omega)]; exact h.oldm i hi
  · by_cases e : i = k + 1
    · subst e
      rw [show n + (k + 1) = n + k + 1 from rfl, push_new, h.new k (Nat.le_refl _)]
      rfl
    · rw [push_pos_old (by omega)]; exact h.new i (by omega)
  · by_cases e : i = k
    · subst e; rw [push_mv_new]
    · rw [push_mv_old (by omega)]; exact h.newm i (by omega)
  · by_cases e : i = k
    · subst e; exact hc
    · exact h.may i (by omega)
end
/-- What play tells: how many moves were made; it ends where none may be made. -/
def PlayEnd (base g : Nat) (s : St) (n : Nat) (x : Nat → Int) (N : Nat) (w : World) (e : Ending) (w' : World) : Prop :=
  ∃ (k : Nat) (s' : St), e = .returned (.int .i64 (k : Int)) ∧ k ≤ N ∧ (k < N → can (s.pos n) x k = false) ∧ Ply base w w' g s n x k s'
end Sk
set_option maxRecDepth 100000 in
theorem Tryz.laidOut : laidOutB Tryz.prog = true := by kernel_rfl
section
variable {H : Type} {enc : TypeId × Value → H} {w : World} {base : Nat} {spare : Nat → Bool} {held : Bool}
set_option maxRecDepth 100000 in
theorem open_nums {r : Reach} {b0 : Nat} {v : Value} {d : DataW H} {p : List MemPlace} (hv : Value.okWide Tryz.prog w r b0 78 v) (h : DataW.Trod enc Tryz.prog w base spare held 78 v d p) :
    ∃ N x, Sk.Ints w.heap.size w v N x := by
  obtain ⟨a0, len, cap, rfl⟩ := okWide_slice Tryz.underlying78 hv
  obtain ⟨fuel, hf⟩ := h
  rcases open_ints Tryz.underlying78 Tryz.underlying3 (by kernel_rfl) hf with ⟨hcs, hx⟩ | ⟨a, len', cap', zs, hcs, _, hl, hm, hz, hx, hcell, hw⟩
  · simp [Value.cells] at hcs
    obtain ⟨rfl, rfl, rfl⟩ := hcs
    exact ⟨0, fun _ => 0, none, 0, rfl, Nat.le_refl _, by decide, fun _ => rfl, fun h => by cases h⟩
  · simp [Value.cells] at hcs
    obtain ⟨rfl, rfl, rfl⟩ := hcs
    have hlz : len ≤ zs.length := by rw [hz]; split <;> omega
    refine ⟨len, fun i => zs.getD i 0, some a, cap, rfl, hl, hm, (fun e => by cases e), fun h0 => ?_⟩
    have hc0 := hcell 0 (by omega)
    rw [show a.add 0 = a from rfl] at hc0
    have hsp := World.cell?_spot hc0
    obtain ⟨b, off, spot⟩ := a
    subst hsp
    refine ⟨b, off, rfl, World.block_lt_of_cell? w _ hc0, fun i hi => ?_⟩
    have := hcell i (by omega)
    rwa [add_plain] at this
end
end Go.Proofs.YtbakeajgolhkgaaGreatDoor
