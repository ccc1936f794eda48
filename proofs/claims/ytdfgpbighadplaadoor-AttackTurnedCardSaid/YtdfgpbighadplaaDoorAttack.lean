/- The program's package attack: its ways. -/
import Derived.Test.YtdfgpbighadplaaDoorBoard
import Derived.Test.YtdfgpbighadplaaDoorKnight
import Derived.Test.YtdfgpbighadplaaDoorRound
namespace Go.Proofs.YtdfgpbighadplaaDoor
open Go.RowKit Go.Sort

namespace K
/-- What a kind attacks from a square. -/
def hits (k : Nat) (color s : Int) (all : BitVec 64) : BitVec 64 :=
  match k with
  | 1 => R.pawn color s
  | 2 => R.knight s
  | 3 => L.bishop s all
  | 4 => L.rook s all
  | 5 => L.queen s all
  | 6 => R.king s
  | _ => 0#64
def ptr (b : Nat) : Value := .pointer (some ⟨b, 0, none⟩)
/-- The kind's function value, over its box. -/
def fn (k b : Nat) : Value :=
  match k with
  | 1 => .func (.func 42) #[] #[]
  | 2 => .func (.func 60) #[] #[ptr b]
  | 6 => .func (.func 60) #[] #[ptr b]
  | 3 => .func (.func 64) #[] #[ptr b]
  | 4 => .func (.func 64) #[] #[ptr b]
  | 5 => .func (.func 64) #[] #[ptr b]
  | _ => .nilFunc
def inner (k : Nat) : Value :=
  match k with
  | 2 => .func (.func 45) #[] #[]
  | 6 => .func (.func 46) #[] #[]
  | 3 => .func (.func 49) #[] #[]
  | 4 => .func (.func 48) #[] #[]
  | 5 => .func (.func 50) #[] #[]
  | _ => .nilFunc
/-- The box of a kind holds what it should. -/
def Ok (k b : Nat) (w : World) : Prop := k = 1 ∨ w.cell? ⟨b, 0, none⟩ = some (inner k)
theorem Ok.below {k b : Nat} {w w' : World} (h : Ok k b w) (hb : Below w.heap.size w w') : Ok k b w' :=
  h.imp id fun h => (hb.cell (p := ⟨b, 0, none⟩) (World.block_lt_of_cell? w ⟨b, 0, none⟩ h)).trans h
end K

set_option maxRecDepth 100000 in
set_option maxHeartbeats 1000000 in
theorem ways1_any (color s : Int) (all : BitVec 64) (w : World) :
    Calls Tryd.prog 42 #[.int .u8 color, .int .i64 s, .int .u64 (U all)] w fun e w' => e = .returned (.int .u64 (U (R.pawn color s))) ∧ Below w.heap.size w w' := by
  go_enter Tryd.func42, Tryd.ntmps42
  go_wp2_with (go_at_call 43; refine (pawn_any _ _ _).mono ?_; rintro e w1 ⟨rfl, hb1⟩)
  go_ret
  exact ⟨rfl, hb1⟩

set_option maxRecDepth 100000 in
set_option maxHeartbeats 1000000 in
theorem step1_knight (color s : Int) (all : BitVec 64) (b : Nat) (w : World) (hb : w.cell? ⟨b, 0, none⟩ = some (.func (.func 45) #[] #[])) :
    Calls Tryd.prog 60 #[.int .u8 color, .int .i64 s, .int .u64 (U all), .pointer (some ⟨b, 0, none⟩)] w fun e w' => e = .returned (.int .u64 (U (R.knight s))) ∧ Below w.heap.size w w' := by
  go_enter Tryd.func60, Tryd.ntmps60
  go_wp2_with (go_at_call 45; refine (knight_any _ _).mono ?_; rintro e w1 ⟨rfl, hb1⟩)
  go_ret
  exact ⟨rfl, hb1⟩
set_option maxRecDepth 100000 in
set_option maxHeartbeats 1000000 in
theorem step1_king (color s : Int) (all : BitVec 64) (b : Nat) (w : World) (hb : w.cell? ⟨b, 0, none⟩ = some (.func (.func 46) #[] #[])) :
    Calls Tryd.prog 60 #[.int .u8 color, .int .i64 s, .int .u64 (U all), .pointer (some ⟨b, 0, none⟩)] w fun e w' => e = .returned (.int .u64 (U (R.king s))) ∧ Below w.heap.size w w' := by
  go_enter Tryd.func60, Tryd.ntmps60
  go_wp2_with (go_at_call 46; refine (king_any _ _).mono ?_; rintro e w1 ⟨rfl, hb1⟩)
  go_ret
  exact ⟨rfl, hb1⟩
set_option maxRecDepth 100000 in
set_option maxHeartbeats 1000000 in
theorem slide1_bishop (color s : Int) (all : BitVec 64) (b : Nat) (w : World) (hT : Tb w) (hb : w.cell? ⟨b, 0, none⟩ = some (.func (.func 49) #[] #[])) :
    Calls Tryd.prog 64 #[.int .u8 color, .int .i64 s, .int .u64 (U all), .pointer (some ⟨b, 0, none⟩)] w fun e w' => e = .returned (.int .u64 (U (L.bishop s all))) ∧ Below w.heap.size w w' := by
  have HT := Lib.hid hT
  clear hT
  go_enter Tryd.func64, Tryd.ntmps64
  go_wp2_with (go_at_call 49; refine (bishop_any _ _ _ HT.out).mono ?_; rintro e w1 ⟨rfl, hb1⟩)
  go_ret
  exact ⟨rfl, hb1⟩
set_option maxRecDepth 100000 in
set_option maxHeartbeats 1000000 in
theorem slide1_rook (color s : Int) (all : BitVec 64) (b : Nat) (w : World) (hT : Tb w) (hb : w.cell? ⟨b, 0, none⟩ = some (.func (.func 48) #[] #[])) :
    Calls Tryd.prog 64 #[.int .u8 color, .int .i64 s, .int .u64 (U all), .pointer (some ⟨b, 0, none⟩)] w fun e w' => e = .returned (.int .u64 (U (L.rook s all))) ∧ Below w.heap.size w w' := by
  have HT := Lib.hid hT
  clear hT
  go_enter Tryd.func64, Tryd.ntmps64
  go_wp2_with (go_at_call 48; refine (rook_any _ _ _ HT.out).mono ?_; rintro e w1 ⟨rfl, hb1⟩)
  go_ret
  exact ⟨rfl, hb1⟩
set_option maxRecDepth 100000 in
set_option maxHeartbeats 1000000 in
theorem slide1_queen (color s : Int) (all : BitVec 64) (b : Nat) (w : World) (hT : Tb w) (hb : w.cell? ⟨b, 0, none⟩ = some (.func (.func 50) #[] #[])) :
    Calls Tryd.prog 64 #[.int .u8 color, .int .i64 s, .int .u64 (U all), .pointer (some ⟨b, 0, none⟩)] w fun e w' => e = .returned (.int .u64 (U (L.queen s all))) ∧ Below w.heap.size w w' := by
  have HT := Lib.hid hT
  clear hT
  go_enter Tryd.func64, Tryd.ntmps64
  go_wp2_with (go_at_call 50; refine (queen_any _ _ _ HT.out).mono ?_; rintro e w1 ⟨rfl, hb1⟩)
  go_ret
  exact ⟨rfl, hb1⟩

set_option maxRecDepth 100000 in
set_option maxHeartbeats 1000000 in
theorem step_any (v : Nat) (w : World) :
    Calls Tryd.prog 44 #[.func (.func v) #[] #[]] w fun e w' => ∃ b, e = .returned (.agg #[.func (.func 60) #[] #[.pointer (some ⟨b, 0, none⟩)]]) ∧ w.heap.size ≤ b ∧ w'.cell? ⟨b, 0, none⟩ = some (.func (.func v) #[] #[]) ∧ Below w.heap.size w w' := by
  have hmf : ∀ (fn : Fn) (first cap : Array Value) (w : World), (Instr.makeFunc fn first cap).run Tryd.prog w = .ok (.func fn first cap) w := fun _ _ _ _ => rfl
  go_enter Tryd.func44, Tryd.ntmps44
  go_wp2
  refine bodyPost_ret (v := .agg #[.func (.func 60) #[] #[.pointer (some ⟨w.heap.size, 0, none⟩)]]) ?_ rfl ⟨w.heap.size, rfl, Nat.le_refl _, ?_, ?_⟩
  · simp [results, Tryd.results44, go_sem]
  · simp [go_sem]
  · exact ((Below.refl _ _).alloc (Nat.le_refl _) _).alloc (by simp) _
set_option maxRecDepth 100000 in
set_option maxHeartbeats 1000000 in
theorem slide_any (v : Nat) (w : World) :
    Calls Tryd.prog 47 #[.func (.func v) #[] #[]] w fun e w' => ∃ b, e = .returned (.agg #[.func (.func 64) #[] #[.pointer (some ⟨b, 0, none⟩)]]) ∧ w.heap.size ≤ b ∧ w'.cell? ⟨b, 0, none⟩ = some (.func (.func v) #[] #[]) ∧ Below w.heap.size w w' := by
  have hmf : ∀ (fn : Fn) (first cap : Array Value) (w : World), (Instr.makeFunc fn first cap).run Tryd.prog w = .ok (.func fn first cap) w := fun _ _ _ _ => rfl
  go_enter Tryd.func47, Tryd.ntmps47
  go_wp2
  refine bodyPost_ret (v := .agg #[.func (.func 64) #[] #[.pointer (some ⟨w.heap.size, 0, none⟩)]]) ?_ rfl ⟨w.heap.size, rfl, Nat.le_refl _, ?_, ?_⟩
  · simp [results, Tryd.results47, go_sem]
  · simp [go_sem]
  · exact ((Below.refl _ _).alloc (Nat.le_refl _) _).alloc (by simp) _

namespace K
/-- The table of the ways. -/
def tab (b : Nat → Nat) : Array Value := #[.nilFunc, fn 1 (b 1), fn 2 (b 2), fn 3 (b 3), fn 4 (b 4), fn 5 (b 5), fn 6 (b 6)]
def AllOk (b : Nat → Nat) (w : World) : Prop := ∀ k, 1 ≤ k → k ≤ 6 → Ok k (b k) w
end K

theorem below_setCells {B b : Nat} (h : B ≤ b) : ∀ (vs : List Value) (o : Nat) (w a : World), Below B a w → Below B a (w.setCells b o vs)
  | [], _, _, _, k => k
  | _ :: vs, _, _, _, k => below_setCells h vs _ _ _ (k.setCell h _)
theorem there_row {w : World} {b : Nat} {cs : Array Value} {t : TypeId} (hg : w.heap[b]? = some (.cells cs t (0, 0))) : w.there b 0 cs.size := by
  intro j hj
  rw [Nat.zero_add]
  simp [World.cell?, World.frozen?, hg, hj]
theorem Tryd.infoWays : (Tryd.prog.info? 53).map (·.size) = some 7 := by kernel_rfl
def K.noTab : Array Value := #[.nilFunc, .nilFunc, .nilFunc, .nilFunc, .nilFunc, .nilFunc, .nilFunc]
@[go_sem] theorem store_nilFunc (P : Program) (w : World) (a : Addr) (m : Mode) : (store a .nilFunc m).run P w = stored P w a .nilFunc m := run_store P w a _ m rfl

set_option maxRecDepth 100000 in
set_option maxHeartbeats 1000000 in
theorem ways_any (w : World) :
    Calls Tryd.prog 30 #[] w fun e w' => ∃ b, e = .returned (.agg (K.tab b)) ∧ K.AllOk b w' ∧ (∀ k, w.heap.size ≤ b k) ∧ Below w.heap.size w w' := by
  have hfin : ∀ w1 w2 w3 w4 w5 : World, Below (w.alloc (.cells K.noTab 53)).heap.size (w.alloc (.cells K.noTab 53)) w1 → Below w1.heap.size w1 w2 → Below w2.heap.size w2 w3 → Below w3.heap.size w3 w4 → Below w4.heap.size w4 w5 → (∀ j, j < 7 → w5.cell? ⟨w.heap.size, j, none⟩ = some .nilFunc) ∧ ∀ j, w5.frozen? ⟨w.heap.size, j, none⟩ = false := by
    intro w1 w2 w3 w4 w5 h1 h2 h3 h4 h5
    have k5 := below_next (below_next (below_next (below_next h1 h2) h3) h4) h5
    have hg : w5.heap[w.heap.size]? = some (.cells K.noTab 53 (0, 0)) := (k5.block w.heap.size (by simp)).trans (heap_alloc_new _ _)
    refine ⟨fun j hj => ?_, fun j => by simp [World.frozen?, hg]⟩
    simp only [World.cell?, hg]
    rcases (show j = 0 ∨ j = 1 ∨ j = 2 ∨ j = 3 ∨ j = 4 ∨ j = 5 ∨ j = 6 by omega) with rfl | rfl | rfl | rfl | rfl | rfl | rfl <;> rfl
  go_enter Tryd.func30, Tryd.ntmps30
  go_wp2_with (first
    | (go_at_call 44; first | (have := hb1; refine (step_any _ _).mono ?_; rintro e w2 ⟨b6, rfl, hl6, hc6, hb2⟩) | (refine (step_any _ _).mono ?_; rintro e w1 ⟨b2, rfl, hl2, hc2, hb1⟩))
    | (go_at_call 47; first | (have := hb4; refine (slide_any _ _).mono ?_; rintro e w5 ⟨b5, rfl, hl5, hc5, hb5⟩; obtain ⟨zc, zf⟩ := hfin _ _ _ _ _ hb1 hb2 hb3 hb4 hb5; have z0 := zc 0 (by decide); have z1 := zc 1 (by decide); have z2 := zc 2 (by decide); have z3 := zc 3 (by decide); have z4 := zc 4 (by decide); have z5 := zc 5 (by decide); have z6 := zc 6 (by decide)) | (have := hb3; refine (slide_any _ _).mono ?_; rintro e w4 ⟨b3, rfl, hl3, hc3, hb4⟩) | (refine (slide_any _ _).mono ?_; rintro e w3 ⟨b4, rfl, hl4, hc4, hb3⟩)))
  let b : Nat → Nat := fun k => match k with | 2 => b2 | 3 => b3 | 4 => b4 | 5 => b5 | _ => b6
  have hkeep : ∀ {X Y : World} {b f : Nat}, X.cell? ⟨b, 0, none⟩ = some (.func (.func f) #[] #[]) → Below X.heap.size X Y → Y.cell? ⟨b, 0, none⟩ = some (.func (.func f) #[] #[]) := fun {X Y b f} h hb => (hb.cell (p := ⟨b, 0, none⟩) (World.block_lt_of_cell? X ⟨b, 0, none⟩ h)).trans h
  have d2 := hkeep hc2 (below_next (below_next (below_next hb2 hb3) hb4) hb5)
  have d6 := hkeep hc6 (below_next (below_next hb3 hb4) hb5)
  have d4 := hkeep hc4 (below_next hb4 hb5)
  have d3 := hkeep hc3 hb5
  have hne : ∀ {b f : Nat}, w5.cell? ⟨b, 0, none⟩ = some (.func (.func f) #[] #[]) → b ≠ w.heap.size := by
    rintro b f h rfl
    rw [z0] at h
    cases h
  have hput : ∀ {b f : Nat} (X : World) (j : Nat) (v : Value), b ≠ w.heap.size → X.cell? ⟨b, 0, none⟩ = some (.func (.func f) #[] #[]) → (X.setCell ⟨w.heap.size, j, none⟩ v).cell? ⟨b, 0, none⟩ = some (.func (.func f) #[] #[]) := by
    intro b f X j v hb h
    rw [World.cell?_setCell_other _ _ _ _ (by intro e; exact hb (congrArg Addr.block e).symm)]
    exact h
  have hput7 : ∀ {b f : Nat} (v0 v1 v2 v3 v4 v5 v6 : Value), w5.cell? ⟨b, 0, none⟩ = some (.func (.func f) #[] #[]) → (((((((w5.setCell ⟨w.heap.size, 0, none⟩ v0).setCell ⟨w.heap.size, 1, none⟩ v1).setCell ⟨w.heap.size, 2, none⟩ v2).setCell ⟨w.heap.size, 3, none⟩ v3).setCell ⟨w.heap.size, 4, none⟩ v4).setCell ⟨w.heap.size, 5, none⟩ v5).setCell ⟨w.heap.size, 6, none⟩ v6).cell? ⟨b, 0, none⟩ = some (.func (.func f) #[] #[]) := by
    intro b f v0 v1 v2 v3 v4 v5 v6 h
    have hb := hne h
    exact hput _ _ _ hb (hput _ _ _ hb (hput _ _ _ hb (hput _ _ _ hb (hput _ _ _ hb (hput _ _ _ hb (hput _ _ _ hb h))))))
  refine bodyPost_ret (v := .agg (K.tab b)) ?_ rfl ⟨b, rfl, ?_, ?_, ?_⟩
  · simp [results, Tryd.results30, go_sem, K.tab, K.fn, K.ptr, b, z0, z1, z2, z3, z4, z5, z6]
  · intro k h1 h6
    rcases (show k = 1 ∨ k = 2 ∨ k = 3 ∨ k = 4 ∨ k = 5 ∨ k = 6 by omega) with rfl | rfl | rfl | rfl | rfl | rfl
    · exact .inl rfl
    · exact .inr (hput7 _ _ _ _ _ _ _ d2)
    · exact .inr (hput7 _ _ _ _ _ _ _ d3)
    · exact .inr (hput7 _ _ _ _ _ _ _ d4)
    · exact .inr (hput7 _ _ _ _ _ _ _ hc5)
    · exact .inr (hput7 _ _ _ _ _ _ _ d6)
  · have s1 := hb1.size
    have s2 := hb2.size
    have s3 := hb3.size
    have s4 := hb4.size
    simp at s1 hl2
    intro k
    simp only [b]
    split <;> omega
  · have k5 : Below w.heap.size w w5 := ((Below.refl _ _).alloc (Nat.le_refl _) _).trans ((below_next (below_next (below_next (below_next hb1 hb2) hb3) hb4) hb5).mono (by simp))
    exact ((((((k5.setCell (p := ⟨w.heap.size, 0, none⟩) (Nat.le_refl _) _).setCell (p := ⟨w.heap.size, 1, none⟩) (Nat.le_refl _) _).setCell (p := ⟨w.heap.size, 2, none⟩) (Nat.le_refl _) _).setCell (p := ⟨w.heap.size, 3, none⟩) (Nat.le_refl _) _).setCell (p := ⟨w.heap.size, 4, none⟩) (Nat.le_refl _) _).setCell (p := ⟨w.heap.size, 5, none⟩) (Nat.le_refl _) _).setCell (p := ⟨w.heap.size, 6, none⟩) (Nat.le_refl _) _

end Go.Proofs.YtdfgpbighadplaaDoor
