/- Rows of moves as a law's arguments. -/
import Derived.Test.YtdcmjbebkmicaaaOpenM
import Derived.Test.YtdcmjbebkmicaaaOrdL
import Derived.Deep.Slices
namespace Go.Proofs.Ytdcmjbebkmicaaa
open Go.RowKit Go.ChangeShapes Go.WideShapes Go.Deep

def mvOf : List Value → Mv
  | [.int _ f, .int _ t, .int _ p, .int _ d, .bool c] => (f, t, p, d, c)
  | _ => (0, 0, 0, 0, false)
theorem Try.cellsMv : Try.prog.cellsOf 33 = 5 := by kernel_rfl
theorem Try.laidOut : laidOutB Try.prog = true := by kernel_rfl
section
variable {H : Type} {enc : TypeId × Value → H} {w w' : World} {base base' : Nat} {spare spare' : Nat → Bool} {held held' : Bool}
theorem mv_cells {cs : List Value} (h : FlatIs [some .i8, some .i8, some .u8, some .u8, none] cs) : cs = M.cell (mvOf cs) ∧ O.MvOk (mvOf cs) := by
  obtain ⟨hl, hc⟩ := h
  obtain ⟨u0, h0, n0, rfl, w0⟩ := hc 0 _ rfl
  obtain ⟨u1, h1, n1, rfl, w1⟩ := hc 1 _ rfl
  obtain ⟨u2, h2, n2, rfl, w2⟩ := hc 2 _ rfl
  obtain ⟨u3, h3, n3, rfl, w3⟩ := hc 3 _ rfl
  obtain ⟨u4, h4, n4, rfl⟩ := hc 4 _ rfl
  have e : cs = [.int .i8 n0, .int .i8 n1, .int .u8 n2, .int .u8 n3, .bool n4] := by
    match cs, hl, h0, h1, h2, h3, h4 with
    | [a, b, c, d, e], _, h0, h1, h2, h3, h4 => simp at h0 h1 h2 h3 h4; subst h0 h1 h2 h3 h4; rfl
  subst e
  exact ⟨rfl, bounds_i8 w0, bounds_i8 w1, bounds_u8 w2, bounds_u8 w3⟩
set_option maxRecDepth 100000 in
theorem open_moves {r : Reach} {b0 : Nat} {v : Value} {d : DataW H} {p : List MemPlace} (hv : Value.okWide Try.prog w r b0 40 v) (h : DataW.Trod enc Try.prog w base (fun _ => true) held 40 v d p) :
    ∃ l, M.Reads w v l ∧ ∀ m ∈ l, O.MvOk m := by
  obtain ⟨a0, len, cap, rfl⟩ := okWide_slice Try.underlying40 hv
  obtain ⟨fuel, hf⟩ := h
  rcases open_slice Try.underlying40 hf with ⟨hcs, hx⟩ | ⟨a, len', cap', m, n, D, Pl, hcs, _, hl, hm, hmm, hx, hcell⟩
  · simp [Value.cells] at hcs
    obtain ⟨rfl, rfl, rfl⟩ := hcs
    exact ⟨[], ⟨none, 0, rfl, Nat.le_refl _, by decide, fun _ => ⟨rfl, rfl⟩, fun h => by cases h⟩, fun m hm => by cases hm⟩
  · simp [Value.cells] at hcs
    obtain ⟨rfl, rfl, rfl⟩ := hcs
    simp only [if_true] at hmm
    subst hmm
    rw [Try.cellsMv] at hcell
    clear hx hf hv
    have hG : ∀ i, i < len → ∃ cs, w.cells? base (a.add (i * 5)) 5 = some cs ∧ cs = M.cell (mvOf cs) ∧ O.MvOk (mvOf cs) := fun i hi => by
      obtain ⟨cs, k1, k2⟩ := hcell i (by omega)
      exact ⟨cs, k1, mv_cells (flat_open 5 33 _ n cs _ Try.movFlat k2).1⟩
    clear hcell
    refine ⟨(List.range len).map fun i => mvOf ((w.cells? base (a.add (i * 5)) 5).getD []), ⟨some a, m, by simp, by simpa using hl, hm, (fun e => by cases e), fun h0 => ?_⟩, fun m hmem => ?_⟩
    · have h0' : 0 < len := by simpa using h0
      obtain ⟨cs0, k1, k2, _⟩ := hG 0 h0'
      obtain ⟨_, q2, q3⟩ := World.cells?_some k1
      have hc0 : w.cell? a = some (.int .i8 (mvOf cs0).1) := by
        have := q3 0 (by omega)
        rw [Nat.zero_mul] at this
        rw [show (a.add 0).add 0 = a from rfl] at this
        rw [this, k2]
        rfl
      have hsp := World.cell?_spot hc0
      obtain ⟨b, off, spot⟩ := a
      subst hsp
      refine ⟨b, off, rfl, World.block_lt_of_cell? w _ hc0, fun j u hu => ?_⟩
      have hj : j < len * 5 := by
        have := (List.getElem?_eq_some_iff.1 hu).1
        rw [M.cells_len] at this
        simpa using this
      have hj5 : j / 5 < len := by omega
      obtain ⟨cs, r1, r2, _⟩ := hG (j / 5) hj5
      obtain ⟨_, _, s3⟩ := World.cells?_some r1
      have h5 : j % 5 < 5 := Nat.mod_lt _ (by omega)
      have e1 := s3 (j % 5) h5
      rw [add_plain, add_plain] at e1
      rw [show off + j = off + j / 5 * 5 + j % 5 by omega, e1]
      have hx : ((List.range len).map fun i => mvOf ((w.cells? base ((⟨b, off, none⟩ : Addr).add (i * 5)) 5).getD []))[j / 5]? = some (mvOf cs) := by
        rw [List.getElem?_map, List.getElem?_range hj5]
        simp only [Option.map_some]
        rw [r1]
        rfl
      rw [M.cells_get _ j _ hx] at hu
      have hl5 : j % 5 < (M.cell (mvOf cs)).length := by simpa [M.cell] using h5
      rw [← hu, getElem!_pos (M.cell (mvOf cs)) (j % 5) hl5, ← List.getElem?_eq_getElem hl5, ← r2]
    · rw [List.mem_map] at hmem
      obtain ⟨i, hi, rfl⟩ := hmem
      obtain ⟨cs, k1, k2, k3⟩ := hG i (by simpa using hi)
      rw [k1]
      exact k3
end
end Go.Proofs.Ytdcmjbebkmicaaa
