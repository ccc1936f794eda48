/- The program's package attack: the iterator over the kinds. -/
import Derived.Test.YtdfgpbighadplaaDoorAttack
namespace Go.Proofs.YtdfgpbighadplaaDoor
open Go.RowKit Go.Sort

namespace K
/-- What a round keeps: the blocks of cells that lie at or beyond B. -/
def Kp (B : Nat) (W W' : World) : Prop := W.heap.size ≤ W'.heap.size ∧ ∀ (b : Nat) (o : Obj), B ≤ b → W.heap[b]? = some o → o.isCells = true → W'.heap[b]? = some o
theorem Kp.refl (B : Nat) (W : World) : Kp B W W := ⟨Nat.le_refl _, fun _ _ _ h _ => h⟩
theorem Kp.trans {B : Nat} {X Y Z : World} (h : Kp B X Y) (k : Kp B Y Z) : Kp B X Z := ⟨Nat.le_trans h.1 k.1, fun b o hb hx ho => k.2 b o hb (h.2 b o hb hx ho) ho⟩
theorem Kp.cell {B : Nat} {W W' : World} (h : Kp B W W') {b o : Nat} {v : Value} (hb : B ≤ b) (hc : W.cell? ⟨b, o, none⟩ = some v) : W'.cell? ⟨b, o, none⟩ = some v := by
  have hlt := World.block_lt_of_cell? W ⟨b, o, none⟩ hc
  have hg : W.heap[b]? = some W.heap[b] := Array.getElem?_eq_getElem hlt
  have ho : (W.heap[b]).isCells = true := by
    simp only [World.cell?, hg] at hc
    cases hq : W.heap[b] <;> simp [hq] at hc ⊢ <;> rfl
  have h2 := h.2 b _ hb hg ho
  simp only [World.cell?, h2]
  simp only [World.cell?, hg] at hc
  exact hc
def xenc (x : Nat × Nat) : Array Value := #[.int .u8 (x.1 : Int), .agg #[fn x.1 x.2]]
def OkX (x : Nat × Nat) (W : World) : Prop := 1 ≤ x.1 ∧ x.1 ≤ 6 ∧ Ok x.1 x.2 W
def upTo (k : Nat) : List Nat := (List.range (k - 1)).map (· + 1)
end K

set_option maxRecDepth 100000 in
set_option maxHeartbeats 2000000 in
theorem kinds1_tells (n l B : Nat) (J : List (Nat × Nat) → World → Prop) (W : World) (hn : 1 ≤ n) (hB : B ≤ W.heap.size) (hJ : ∀ s, Grows (J s)) (h0 : J [] W)
    (hY : ∀ pre x W1, J pre W1 → K.OkX x W1 → YieldAt Fence.wide (n - 1) Tryd.prog l (K.xenc x) W1 fun e W' => e = .returned (.bool true) ∧ J (pre ++ [x]) W' ∧ K.Kp B W1 W') :
    CallsIn Fence.wide n Tryd.prog 39 #[.func (.yield l) #[] #[]] W fun e W' => (∃ v, e = .returned v) ∧ ∃ xs, xs.map Prod.fst = K.upTo 7 ∧ J xs W' := by
  refine callsIn_of_wp Tryd.func39 rfl trivial ?_ rfl
  simp only [Tryd.ntmps39, List.size_toArray, List.length_cons, List.length_nil, Nat.reduceAdd, Nat.reduceSub, Array.replicate_succ, Array.replicate_zero, List.push_toArray, List.append_toArray, List.nil_append, List.cons_append]
  gi_wp2_with (first | (refine ⟨trivial, ?_⟩; gi_at_call 30; refine (callsIn_wide.2 (ways_any _)).mono ?_; rintro e W1 ⟨b, rfl, hok, hbl, hb1⟩; simp only [K.tab, K.fn, K.ptr]) | (gi_at_call 30; refine (callsIn_wide.2 (ways_any _)).mono ?_; rintro e W1 ⟨b, rfl, hok, hbl, hb1⟩; simp only [K.tab, K.fn, K.ptr]))
  have HY := Lib.hid hY
  clear hY
  have hJ1 : J [] (W1.alloc (.cells (K.tab b) 53)) := hJ _ _ _ (hJ _ _ _ h0 hb1) ((Below.refl _ _).alloc (Nat.le_refl _) _)
  have hrow : ∀ j v, (K.tab b)[j]? = some v → (W1.alloc (.cells (K.tab b) 53)).cell? ⟨W1.heap.size, j, none⟩ = some v := fun j v h => by
    rw [World.cell?_alloc_at _ _ _ _ rfl]; exact h
  have hok1 : K.AllOk b (W1.alloc (.cells (K.tab b) 53)) := fun k h1 h6 => (hok k h1 h6).below ((Below.refl _ _).alloc (Nat.le_refl _) _)
  have hBW : B ≤ W1.heap.size := Nat.le_trans hB hb1.size
  have hbB : ∀ k, B ≤ b k := fun k => Nat.le_trans hB (hbl k)
  have HJ1 := Lib.hid hJ1
  have Hrow := Lib.hid hrow
  have Hok := Lib.hid hok1
  clear hJ1 hrow hok1 hok h0
  gi_loopw [3] (fun v wr => ∃ (k : Nat) (pre : List (Nat × Nat)), 1 ≤ k ∧ k ≤ 7 ∧ v = .int .u8 (k : Int) ∧ pre.map Prod.fst = K.upTo k ∧ J pre wr ∧ (∀ j v, (K.tab b)[j]? = some v → wr.cell? ⟨W1.heap.size, j, none⟩ = some v) ∧ K.AllOk b wr) (fun v _ => 7 - (intOf v).toNat)
  case atStart => exact ⟨1, [], by omega, by omega, rfl, rfl, HJ1.out, Hrow.out, Hok.out⟩
  case round =>
    obtain ⟨k, pre, h1, h7, rfl, hpre, hJk, hrow, hok⟩ := hrel
    by_cases hlt : k < 7
    · have hyy := HY.out pre (k, b k) wr hJk ⟨h1, by show k ≤ 6; omega, hok k h1 (by omega)⟩
      have Hpre := Lib.hid hpre
      have Hk := Lib.hid hok
      have HR := Lib.hid hrow
      clear hpre hok
      rcases (show k = 1 ∨ k = 2 ∨ k = 3 ∨ k = 4 ∨ k = 5 ∨ k = 6 by omega) with rfl | rfl | rfl | rfl | rfl | rfl
      · have hcell : wr.cell? ⟨W1.heap.size, 1, none⟩ = some (.func (.func 42) #[] #[]) := hrow 1 _ rfl
        clear hrow
        obtain ⟨fn, tmps, assign, body, hy, hR⟩ := hyy
        change (Instr.yield l #[.int .u8 1, .agg #[.func (.func 42) #[] #[]]]).run _ _ = _ at hy
        gi_wp2
        refine hR.mono ?_
        rintro e W3 ⟨rfl, hJ3, hk3⟩
        gi_wp2
        go_roundw
        case rel => exact ⟨1 + 1, _, by omega, by omega, rfl, by rw [List.map_append, Hpre.out]; rfl, hJ3, fun j v h => hk3.cell hBW (HR.out j v h), fun j h1 h6 => (Hk.out j h1 h6).imp id fun h => hk3.cell (hbB j) h⟩
        case measure => simp [intOf]
      · have hcell : wr.cell? ⟨W1.heap.size, 2, none⟩ = some (.func (.func 60) #[] #[.pointer (some ⟨b 2, 0, none⟩)]) := hrow 2 _ rfl
        clear hrow
        obtain ⟨fn, tmps, assign, body, hy, hR⟩ := hyy
        change (Instr.yield l #[.int .u8 2, .agg #[.func (.func 60) #[] #[.pointer (some ⟨b 2, 0, none⟩)]]]).run _ _ = _ at hy
        gi_wp2
        refine hR.mono ?_
        rintro e W3 ⟨rfl, hJ3, hk3⟩
        gi_wp2
        go_roundw
        case rel => exact ⟨2 + 1, _, by omega, by omega, rfl, by rw [List.map_append, Hpre.out]; rfl, hJ3, fun j v h => hk3.cell hBW (HR.out j v h), fun j h1 h6 => (Hk.out j h1 h6).imp id fun h => hk3.cell (hbB j) h⟩
        case measure => simp [intOf]
      · have hcell : wr.cell? ⟨W1.heap.size, 3, none⟩ = some (.func (.func 64) #[] #[.pointer (some ⟨b 3, 0, none⟩)]) := hrow 3 _ rfl
        clear hrow
        obtain ⟨fn, tmps, assign, body, hy, hR⟩ := hyy
        change (Instr.yield l #[.int .u8 3, .agg #[.func (.func 64) #[] #[.pointer (some ⟨b 3, 0, none⟩)]]]).run _ _ = _ at hy
        gi_wp2
        refine hR.mono ?_
        rintro e W3 ⟨rfl, hJ3, hk3⟩
        gi_wp2
        go_roundw
        case rel => exact ⟨3 + 1, _, by omega, by omega, rfl, by rw [List.map_append, Hpre.out]; rfl, hJ3, fun j v h => hk3.cell hBW (HR.out j v h), fun j h1 h6 => (Hk.out j h1 h6).imp id fun h => hk3.cell (hbB j) h⟩
        case measure => simp [intOf]
      · have hcell : wr.cell? ⟨W1.heap.size, 4, none⟩ = some (.func (.func 64) #[] #[.pointer (some ⟨b 4, 0, none⟩)]) := hrow 4 _ rfl
        clear hrow
        obtain ⟨fn, tmps, assign, body, hy, hR⟩ := hyy
        change (Instr.yield l #[.int .u8 4, .agg #[.func (.func 64) #[] #[.pointer (some ⟨b 4, 0, none⟩)]]]).run _ _ = _ at hy
        gi_wp2
        refine hR.mono ?_
        rintro e W3 ⟨rfl, hJ3, hk3⟩
        gi_wp2
        go_roundw
        case rel => exact ⟨4 + 1, _, by omega, by omega, rfl, by rw [List.map_append, Hpre.out]; rfl, hJ3, fun j v h => hk3.cell hBW (HR.out j v h), fun j h1 h6 => (Hk.out j h1 h6).imp id fun h => hk3.cell (hbB j) h⟩
        case measure => simp [intOf]
      · have hcell : wr.cell? ⟨W1.heap.size, 5, none⟩ = some (.func (.func 64) #[] #[.pointer (some ⟨b 5, 0, none⟩)]) := hrow 5 _ rfl
        clear hrow
        obtain ⟨fn, tmps, assign, body, hy, hR⟩ := hyy
        change (Instr.yield l #[.int .u8 5, .agg #[.func (.func 64) #[] #[.pointer (some ⟨b 5, 0, none⟩)]]]).run _ _ = _ at hy
        gi_wp2
        refine hR.mono ?_
        rintro e W3 ⟨rfl, hJ3, hk3⟩
        gi_wp2
        go_roundw
        case rel => exact ⟨5 + 1, _, by omega, by omega, rfl, by rw [List.map_append, Hpre.out]; rfl, hJ3, fun j v h => hk3.cell hBW (HR.out j v h), fun j h1 h6 => (Hk.out j h1 h6).imp id fun h => hk3.cell (hbB j) h⟩
        case measure => simp [intOf]
      · have hcell : wr.cell? ⟨W1.heap.size, 6, none⟩ = some (.func (.func 60) #[] #[.pointer (some ⟨b 6, 0, none⟩)]) := hrow 6 _ rfl
        clear hrow
        obtain ⟨fn, tmps, assign, body, hy, hR⟩ := hyy
        change (Instr.yield l #[.int .u8 6, .agg #[.func (.func 60) #[] #[.pointer (some ⟨b 6, 0, none⟩)]]]).run _ _ = _ at hy
        gi_wp2
        refine hR.mono ?_
        rintro e W3 ⟨rfl, hJ3, hk3⟩
        gi_wp2
        go_roundw
        case rel => exact ⟨6 + 1, _, by omega, by omega, rfl, by rw [List.map_append, Hpre.out]; rfl, hJ3, fun j v h => hk3.cell hBW (HR.out j v h), fun j h1 h6 => (Hk.out j h1 h6).imp id fun h => hk3.cell (hbB j) h⟩
        case measure => simp [intOf]
    · obtain rfl : k = 7 := by omega
      gi_wp2
      go_end0
      exact ⟨⟨_, rfl⟩, _, hpre, hJk⟩

end Go.Proofs.YtdfgpbighadplaaDoor
