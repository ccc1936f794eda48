/- The program's package rays: Knight. -/
import Derived.Test.YtdfgpbighadplaaDoorRays
import Derived.Deep.RegionHeld3
namespace Go.Proofs.YtdfgpbighadplaaDoor
open Go.RowKit Go.Sort

/-- What is held in the region: the box of the square; that all below is as it was. -/
def KnS (B : Nat) (s : Int) (w w' : World) : Prop := w'.cell? ⟨B, 0, none⟩ = some (.int .i64 s) ∧ Below w.heap.size w w'
theorem knS_alloc {B : Nat} {s : Int} {w w' : World} (h : KnS B s w w') (o : Obj) : KnS B s w (w'.alloc o) := by
  refine ⟨?_, h.2.alloc h.2.size o⟩
  rw [World.cell?_alloc_lt _ _ _ (World.block_lt_of_cell? w' ⟨B, 0, none⟩ h.1)]; exact h.1
theorem knS_drew {B : Nat} {s : Int} {w w' : World} (h : KnS B s w w') : KnS B s w w'.drew := ⟨h.1, h.2.drew⟩
theorem knS_next {B : Nat} {s : Int} {w w' w2 : World} (h : KnS B s w w') (k : Below w'.heap.size w' w2) : KnS B s w w2 :=
  ⟨(k.cell (p := ⟨B, 0, none⟩) (World.block_lt_of_cell? w' ⟨B, 0, none⟩ h.1)).trans h.1, below_next h.2 k⟩

theorem rsteps2 (s : Int) (b d e : Nat) (w : World) (hd : d < 8) (he : e < 8) (hb : b < w.heap.size) (c0 : w.cell? ⟨b, 0, none⟩ = some (.int .i64 (d : Int))) (c1 : w.cell? ⟨b, 1, none⟩ = some (.int .i64 (e : Int))) :
    Calls Tryd.prog 59 #[.int .i64 s, .slice (some ⟨b, 0, none⟩) 2 2] w fun x w' => x = .returned (.int .u64 (U (R.steps s [d, e]))) ∧ Below w.heap.size w w' := by
  refine rsteps_any s b 2 [d, e] w rfl (by omega) (by simp [hd, he]) hb (fun j x h => ?_)
  match j, h with
  | 0, h => simp at h; subst h; exact c0
  | 1, h => simp at h; subst h; exact c1

set_option maxRecDepth 100000 in
set_option maxHeartbeats 2000000 in
theorem knight1_odd (s : Int) (B d : Nat) (w : World) (hd : d < 8) (h2 : d % 2 = 1) :
    Calls Tryd.prog 62 #[.int .i64 (d : Int), .pointer (some ⟨B, 0, none⟩)] w fun e w' => e = .returned (.int .u64 (U (R.knight1 s d))) ∧ Below w.heap.size w w' := by
  have hv := Lib.hid (show U (R.knight1 s d) = 0 by unfold R.knight1; rw [if_pos h2]; rfl)
  have hd4 : d = 1 ∨ d = 3 ∨ d = 5 ∨ d = 7 := by omega
  clear hd h2
  rcases hd4 with rfl | rfl | rfl | rfl
  all_goals
    go_enter Tryd.func62, Tryd.ntmps62
    go_wp2
    go_ret
    exact ⟨ret_int hv.out.symm, Below.refl _ _⟩

set_option maxRecDepth 100000 in
set_option maxHeartbeats 2000000 in
theorem knight1_0 (s : Int) (B : Nat) (w : World) (hB : w.cell? ⟨B, 0, none⟩ = some (.int .i64 s)) :
    Calls Tryd.prog 62 #[.int .i64 0, .pointer (some ⟨B, 0, none⟩)] w fun e w' => e = .returned (.int .u64 (U (bOr (R.steps s [0, 1]) (R.steps s [0, 7])))) ∧ Below w.heap.size w w' := by
  have hS0 : KnS B s w w := ⟨hB, Below.refl _ _⟩
  have HS0 := Lib.hid hS0
  have f1 : IntKind.i64.wrap 1 = 1 := by decide
  have f7 : IntKind.i64.wrap 7 = 7 := by decide
  have f8 : IntKind.i64.wrap 8 = 8 := by decide
  have m1 : (1 : Int).tmod 8 = 1 := by decide
  have m7 : (7 : Int).tmod 8 = 7 := by decide
  clear hS0
  go_enter Tryd.func62, Tryd.ntmps62
  go_wp2_with fail
  go_region_held3 (fun w' => w'.cell? ⟨B, 0, none⟩ = some (.int .i64 s) ∧ Below w.heap.size w w') (first | assumption | exact knS_drew HS0.out | exact knS_alloc (by assumption) _ | exact knS_drew (knS_alloc (by assumption) _)) (first | (go_at_call 59; first | (refine (rsteps2 s _ 0 1 _ (by decide) (by decide) ?_ ?_ ?_).mono ?_; (next => first | omega | (simp; done) | (simp; omega)); (next => (simp; done)); (next => (simp; done)); rintro e v1 ⟨rfl, hb1⟩; have hS1 : KnS B s w v1 := knS_next (by assumption) hb1; have hz1 := hb1.size; simp at hz1) | (refine (rsteps2 s _ 0 7 _ (by decide) (by decide) ?_ ?_ ?_).mono ?_; (next => first | omega | (simp; done) | (simp; omega)); (next => first | (simp; done) | exact (hb1.cell (p := ⟨_, 0, none⟩) (by simp <;> omega)).trans (by simp)); (next => first | (simp; done) | exact (hb1.cell (p := ⟨_, 1, none⟩) (by simp <;> omega)).trans (by simp)); rintro e v2 ⟨rfl, hb2⟩; have hS2 : KnS B s w v2 := knS_next (by assumption) hb2)))
  all_goals
    go_wp2
    go_ret
    exact ⟨rfl, (And.right (by assumption : KnS B s w _))⟩

set_option maxRecDepth 100000 in
set_option maxHeartbeats 2000000 in
theorem knight1_2 (s : Int) (B : Nat) (w : World) (hB : w.cell? ⟨B, 0, none⟩ = some (.int .i64 s)) :
    Calls Tryd.prog 62 #[.int .i64 2, .pointer (some ⟨B, 0, none⟩)] w fun e w' => e = .returned (.int .u64 (U (bOr (R.steps s [2, 3]) (R.steps s [2, 1])))) ∧ Below w.heap.size w w' := by
  have hS0 : KnS B s w w := ⟨hB, Below.refl _ _⟩
  have HS0 := Lib.hid hS0
  have f1 : IntKind.i64.wrap 1 = 1 := by decide
  have f3 : IntKind.i64.wrap 3 = 3 := by decide
  have f9 : IntKind.i64.wrap 9 = 9 := by decide
  have f10 : IntKind.i64.wrap 10 = 10 := by decide
  have m3 : (3 : Int).tmod 8 = 3 := by decide
  have m9 : (9 : Int).tmod 8 = 1 := by decide
  clear hS0
  go_enter Tryd.func62, Tryd.ntmps62
  go_wp2_with fail
  go_region_held3 (fun w' => w'.cell? ⟨B, 0, none⟩ = some (.int .i64 s) ∧ Below w.heap.size w w') (first | assumption | exact knS_drew HS0.out | exact knS_alloc (by assumption) _ | exact knS_drew (knS_alloc (by assumption) _)) (first | (go_at_call 59; first | (refine (rsteps2 s _ 2 3 _ (by decide) (by decide) ?_ ?_ ?_).mono ?_; (next => first | omega | (simp; done) | (simp; omega)); (next => (simp; done)); (next => (simp; done)); rintro e v1 ⟨rfl, hb1⟩; have hS1 : KnS B s w v1 := knS_next (by assumption) hb1; have hz1 := hb1.size; simp at hz1) | (refine (rsteps2 s _ 2 1 _ (by decide) (by decide) ?_ ?_ ?_).mono ?_; (next => first | omega | (simp; done) | (simp; omega)); (next => first | (simp; done) | exact (hb1.cell (p := ⟨_, 0, none⟩) (by simp <;> omega)).trans (by simp)); (next => first | (simp; done) | exact (hb1.cell (p := ⟨_, 1, none⟩) (by simp <;> omega)).trans (by simp)); rintro e v2 ⟨rfl, hb2⟩; have hS2 : KnS B s w v2 := knS_next (by assumption) hb2)))
  all_goals
    go_wp2
    go_ret
    exact ⟨rfl, (And.right (by assumption : KnS B s w _))⟩

set_option maxRecDepth 100000 in
set_option maxHeartbeats 2000000 in
theorem knight1_4 (s : Int) (B : Nat) (w : World) (hB : w.cell? ⟨B, 0, none⟩ = some (.int .i64 s)) :
    Calls Tryd.prog 62 #[.int .i64 4, .pointer (some ⟨B, 0, none⟩)] w fun e w' => e = .returned (.int .u64 (U (bOr (R.steps s [4, 5]) (R.steps s [4, 3])))) ∧ Below w.heap.size w w' := by
  have hS0 : KnS B s w w := ⟨hB, Below.refl _ _⟩
  have HS0 := Lib.hid hS0
  have f1 : IntKind.i64.wrap 1 = 1 := by decide
  have f3 : IntKind.i64.wrap 3 = 3 := by decide
  have f5 : IntKind.i64.wrap 5 = 5 := by decide
  have f11 : IntKind.i64.wrap 11 = 11 := by decide
  have f12 : IntKind.i64.wrap 12 = 12 := by decide
  have m5 : (5 : Int).tmod 8 = 5 := by decide
  have m11 : (11 : Int).tmod 8 = 3 := by decide
  clear hS0
  go_enter Tryd.func62, Tryd.ntmps62
  go_wp2_with fail
  go_region_held3 (fun w' => w'.cell? ⟨B, 0, none⟩ = some (.int .i64 s) ∧ Below w.heap.size w w') (first | assumption | exact knS_drew HS0.out | exact knS_alloc (by assumption) _ | exact knS_drew (knS_alloc (by assumption) _)) (first | (go_at_call 59; first | (refine (rsteps2 s _ 4 5 _ (by decide) (by decide) ?_ ?_ ?_).mono ?_; (next => first | omega | (simp; done) | (simp; omega)); (next => (simp; done)); (next => (simp; done)); rintro e v1 ⟨rfl, hb1⟩; have hS1 : KnS B s w v1 := knS_next (by assumption) hb1; have hz1 := hb1.size; simp at hz1) | (refine (rsteps2 s _ 4 3 _ (by decide) (by decide) ?_ ?_ ?_).mono ?_; (next => first | omega | (simp; done) | (simp; omega)); (next => first | (simp; done) | exact (hb1.cell (p := ⟨_, 0, none⟩) (by simp <;> omega)).trans (by simp)); (next => first | (simp; done) | exact (hb1.cell (p := ⟨_, 1, none⟩) (by simp <;> omega)).trans (by simp)); rintro e v2 ⟨rfl, hb2⟩; have hS2 : KnS B s w v2 := knS_next (by assumption) hb2)))
  all_goals
    go_wp2
    go_ret
    exact ⟨rfl, (And.right (by assumption : KnS B s w _))⟩

set_option maxRecDepth 100000 in
set_option maxHeartbeats 2000000 in
theorem knight1_6 (s : Int) (B : Nat) (w : World) (hB : w.cell? ⟨B, 0, none⟩ = some (.int .i64 s)) :
    Calls Tryd.prog 62 #[.int .i64 6, .pointer (some ⟨B, 0, none⟩)] w fun e w' => e = .returned (.int .u64 (U (bOr (R.steps s [6, 7]) (R.steps s [6, 5])))) ∧ Below w.heap.size w w' := by
  have hS0 : KnS B s w w := ⟨hB, Below.refl _ _⟩
  have HS0 := Lib.hid hS0
  have f1 : IntKind.i64.wrap 1 = 1 := by decide
  have f5 : IntKind.i64.wrap 5 = 5 := by decide
  have f7 : IntKind.i64.wrap 7 = 7 := by decide
  have f13 : IntKind.i64.wrap 13 = 13 := by decide
  have f14 : IntKind.i64.wrap 14 = 14 := by decide
  have m7 : (7 : Int).tmod 8 = 7 := by decide
  have m13 : (13 : Int).tmod 8 = 5 := by decide
  clear hS0
  go_enter Tryd.func62, Tryd.ntmps62
  go_wp2_with fail
  go_region_held3 (fun w' => w'.cell? ⟨B, 0, none⟩ = some (.int .i64 s) ∧ Below w.heap.size w w') (first | assumption | exact knS_drew HS0.out | exact knS_alloc (by assumption) _ | exact knS_drew (knS_alloc (by assumption) _)) (first | (go_at_call 59; first | (refine (rsteps2 s _ 6 7 _ (by decide) (by decide) ?_ ?_ ?_).mono ?_; (next => first | omega | (simp; done) | (simp; omega)); (next => (simp; done)); (next => (simp; done)); rintro e v1 ⟨rfl, hb1⟩; have hS1 : KnS B s w v1 := knS_next (by assumption) hb1; have hz1 := hb1.size; simp at hz1) | (refine (rsteps2 s _ 6 5 _ (by decide) (by decide) ?_ ?_ ?_).mono ?_; (next => first | omega | (simp; done) | (simp; omega)); (next => first | (simp; done) | exact (hb1.cell (p := ⟨_, 0, none⟩) (by simp <;> omega)).trans (by simp)); (next => first | (simp; done) | exact (hb1.cell (p := ⟨_, 1, none⟩) (by simp <;> omega)).trans (by simp)); rintro e v2 ⟨rfl, hb2⟩; have hS2 : KnS B s w v2 := knS_next (by assumption) hb2)))
  all_goals
    go_wp2
    go_ret
    exact ⟨rfl, (And.right (by assumption : KnS B s w _))⟩

theorem knight1_any (s : Int) (B d : Nat) (w : World) (hd : d < 8) (hB : w.cell? ⟨B, 0, none⟩ = some (.int .i64 s)) :
    Calls Tryd.prog 62 #[.int .i64 (d : Int), .pointer (some ⟨B, 0, none⟩)] w fun e w' => e = .returned (.int .u64 (U (R.knight1 s d))) ∧ Below w.heap.size w w' := by
  by_cases h : d % 2 = 1
  · exact knight1_odd s B d w hd h
  · have hd4 : d = 0 ∨ d = 2 ∨ d = 4 ∨ d = 6 := by omega
    rcases hd4 with rfl | rfl | rfl | rfl
    · exact knight1_0 s B w hB
    · exact knight1_2 s B w hB
    · exact knight1_4 s B w hB
    · exact knight1_6 s B w hB

set_option maxRecDepth 100000 in
set_option maxHeartbeats 1000000 in
theorem each_knight (B : Nat) (g : Nat → BitVec 64) (w : World) (h : EachOk 62 B g w) :
    Calls Tryd.prog 61 #[.func (.func 62) #[] #[.pointer (some ⟨B, 0, none⟩)]] w fun e w' => e = .returned (.int .u64 (U (R.orTo g 8))) ∧ Below w.heap.size w w' := by
  have H := Lib.hid h
  clear h
  go_enter Tryd.func61, Tryd.ntmps61
  go_wp2
  go_loopw [3, 5] (fun v i wr => ∃ k : Nat, k ≤ 8 ∧ i = .int .i64 (k : Int) ∧ v = .int .u64 (U (R.orTo g k)) ∧ Below w.heap.size w wr) (fun _ i _ => 8 - (intOf i).toNat)
  case atStart => exact ⟨0, Nat.zero_le _, rfl, rfl, Below.refl _ _⟩
  case round =>
    obtain ⟨k, hk, rfl, rfl, hbr⟩ := hrel
    by_cases hlt : k < 8
    · go_wp2_with (go_at_call 62; refine (H.out k _ hlt hbr).mono ?_; rintro e w1 ⟨rfl, hb1⟩)
      exact ⟨⟨k + 1, by omega, by go_num, rfl, below_next hbr hb1⟩, by simp [intOf]; omega⟩
    · obtain rfl : k = 8 := by omega
      go_wp2
      go_ret
      exact ⟨rfl, hbr⟩

set_option maxRecDepth 100000 in
set_option maxHeartbeats 1000000 in
theorem knight_any (s : Int) (w : World) :
    Calls Tryd.prog 45 #[.int .i64 s] w fun e w' => e = .returned (.int .u64 (U (R.knight s))) ∧ Below w.heap.size w w' := by
  have hE : EachOk 62 w.heap.size (R.knight1 s) (w.alloc (.cells #[.int .i64 s] 3)) := fun d w' hd hb => knight1_any s _ d w' hd ((hb.cell (p := ⟨w.heap.size, 0, none⟩) (by simp)).trans (by rw [World.cell?_alloc_at _ _ _ _ rfl]; rfl))
  have HE := Lib.hid hE
  clear hE
  have hmf : ∀ (fn : Fn) (first cap : Array Value) (w : World), (Instr.makeFunc fn first cap).run Tryd.prog w = .ok (.func fn first cap) w := fun _ _ _ _ => rfl
  go_enter Tryd.func45, Tryd.ntmps45
  go_wp2_with (go_at_call 61; refine (each_knight _ _ _ HE.out).mono ?_; rintro e w1 ⟨rfl, hb1⟩)
  go_ret
  exact ⟨rfl, ((Below.refl _ _).alloc (Nat.le_refl _) _).trans (hb1.mono (by simp))⟩

end Go.Proofs.YtdfgpbighadplaaDoor
