/- The program's package rays: what each function computes. -/
import Derived.Test.YtdfgpbighadplaaDoorBits
import Derived.Deep.LoopGhost
namespace Go.Proofs.YtdfgpbighadplaaDoor
open Go.RowKit Go.Sort

namespace R
/-- Steps from a square, one behind the other. -/
def steps (s : Int) (ds : List Nat) : BitVec 64 := ds.foldl B.shift (B.put 0#64 s)
def orTo (g : Nat → BitVec 64) : Nat → BitVec 64
  | 0 => 0#64
  | n + 1 => bOr (orTo g n) (g n)
def king (s : Int) : BitVec 64 := orTo (fun d => steps s [d]) 8
def knight1 (s : Int) (d : Nat) : BitVec 64 := if d % 2 = 1 then 0#64 else bOr (steps s [d, (d + 1) % 8]) (steps s [d, (d + 7) % 8])
def knight (s : Int) : BitVec 64 := orTo (knight1 s) 8
def pawn (c : Int) (s : Int) : BitVec 64 := if c = 0 then bOr (steps s [1]) (steps s [7]) else if c = 1 then bOr (steps s [3]) (steps s [5]) else 0#64
def rayAt (s : Int) (d : Nat) : Nat → BitVec 64
  | 0 => steps s [d]
  | n + 1 => B.shift (rayAt s d n) d
def ray (s : Int) (d : Nat) : BitVec 64 := orTo (rayAt s d) 8
theorem steps_snoc (s : Int) (ds : List Nat) (d : Nat) : steps s (ds ++ [d]) = B.shift (steps s ds) d := by simp [steps]
end R

set_option maxRecDepth 100000 in
set_option maxHeartbeats 1000000 in
theorem rsteps_any (s : Int) (b n : Nat) (ds : List Nat) (w : World) (hn : ds.length = n) (hn2 : n ≤ 8) (hds : ∀ d ∈ ds, d < 8) (hb : b < w.heap.size) (hc : ∀ (j : Nat) d, ds[j]? = some d → w.cell? ⟨b, j, none⟩ = some (.int .i64 (d : Int))) :
    Calls Tryd.prog 59 #[.int .i64 s, .slice (some ⟨b, 0, none⟩) n n] w fun e w' => e = .returned (.int .u64 (U (R.steps s ds))) ∧ Below w.heap.size w w' := by
  have Hc := Lib.hid hc
  have Hn := Lib.hid hn
  have Hd := Lib.hid hds
  clear hc hn hds
  have p0 : ∀ w' : World, Calls Tryd.prog 57 #[.int .u64 0, .int .i64 s] w' fun e w'' => e = .returned (.int .u64 (U (B.put 0#64 s))) ∧ w' = w'' := fun w' => put_any 0#64 s w'
  have P0 := Lib.hid p0
  clear p0
  go_enter Tryd.func59, Tryd.ntmps59
  go_wp2_with (go_at_call 57; refine (P0.out _).mono ?_; rintro e w' ⟨rfl, rfl⟩)
  go_loopw [5, 12] (fun v i wr => ∃ k : Nat, k ≤ n ∧ i = .int .i64 (k : Int) ∧ v = .int .u64 (U (R.steps s (ds.take k))) ∧ Below w.heap.size w wr) (fun _ i _ => n - (intOf i).toNat)
  case atStart => exact ⟨0, Nat.zero_le _, rfl, by simp [R.steps], Below.refl _ _⟩
  case round =>
    obtain ⟨k, hk, rfl, rfl, hbr⟩ := hrel
    by_cases hlt : k < n
    · obtain ⟨d, hd⟩ : ∃ d, ds[k]? = some d := ⟨_, List.getElem?_eq_getElem (by have := Hn.out; omega)⟩
      have hcell : wr.cell? ⟨b, k, none⟩ = some (.int .i64 (d : Int)) := (hbr.cell (p := ⟨b, k, none⟩) hb).trans (Hc.out k d hd)
      have hd8 : d < 8 := Hd.out d (List.mem_of_getElem? hd)
      have Hs : Hid (R.steps s (ds.take (k + 1)) = B.shift (R.steps s (ds.take k)) d) := by
        rw [List.take_add_one, hd]
        exact R.steps_snoc _ _ _
      have Hd2 := Lib.hid hd
      clear hd
      go_wp2_with (go_at_call 69; refine (bshift_any _ _ hd8 _).mono ?_; rintro e w1 ⟨rfl, hb1⟩)
      exact ⟨⟨k + 1, by omega, by go_num, by rw [Hs.out], below_next hbr hb1⟩, by simp [intOf]; omega⟩
    · obtain rfl : k = n := by omega
      go_wp2
      go_ret
      exact ⟨by rw [List.take_of_length_le (by have := Hn.out; omega)]; rfl, hbr⟩

theorem cells_new (w : World) (l : List Nat) (T : TypeId) : ∀ (j d : Nat), l[j]? = some d → (w.alloc (.cells (l.map fun (d : Nat) => Value.int .i64 (d : Int)).toArray T)).cell? ⟨w.heap.size, j, none⟩ = some (.int .i64 (d : Int)) := by
  intro j d h
  rw [World.cell?_alloc_at _ _ _ _ rfl]
  simp [h]

/-- What 'each' is handed: a closure over one box. -/
def EachOk (fid : Nat) (B : Nat) (g : Nat → BitVec 64) (w : World) : Prop := ∀ (d : Nat) (w' : World), d < 8 → Below w.heap.size w w' → Calls Tryd.prog fid #[.int .i64 (d : Int), .pointer (some ⟨B, 0, none⟩)] w' fun e w'' => e = .returned (.int .u64 (U (g d))) ∧ Below w'.heap.size w' w''

set_option maxRecDepth 100000 in
set_option maxHeartbeats 1000000 in
theorem king1_any (s : Int) (B d : Nat) (w : World) (hd : d < 8) (hB : w.cell? ⟨B, 0, none⟩ = some (.int .i64 s)) :
    Calls Tryd.prog 63 #[.int .i64 (d : Int), .pointer (some ⟨B, 0, none⟩)] w fun e w' => e = .returned (.int .u64 (U (R.steps s [d]))) ∧ Below w.heap.size w w' := by
  go_enter Tryd.func63, Tryd.ntmps63
  go_wp2_with (go_at_call 59; refine (rsteps_any s _ 1 [d] _ rfl (by omega) (by simpa using hd) (by simp) (cells_new _ [d] _)).mono ?_; rintro e w1 ⟨rfl, hb1⟩)
  go_ret
  exact ⟨rfl, ((Below.refl _ _).alloc (Nat.le_refl _) _).trans (hb1.mono (by simp))⟩

set_option maxRecDepth 100000 in
set_option maxHeartbeats 1000000 in
theorem each_king (B : Nat) (g : Nat → BitVec 64) (w : World) (h : EachOk 63 B g w) :
    Calls Tryd.prog 61 #[.func (.func 63) #[] #[.pointer (some ⟨B, 0, none⟩)]] w fun e w' => e = .returned (.int .u64 (U (R.orTo g 8))) ∧ Below w.heap.size w w' := by
  have H := Lib.hid h
  clear h
  go_enter Tryd.func61, Tryd.ntmps61
  go_wp2
  go_loopw [3, 5] (fun v i wr => ∃ k : Nat, k ≤ 8 ∧ i = .int .i64 (k : Int) ∧ v = .int .u64 (U (R.orTo g k)) ∧ Below w.heap.size w wr) (fun _ i _ => 8 - (intOf i).toNat)
  case atStart => exact ⟨0, Nat.zero_le _, rfl, rfl, Below.refl _ _⟩
  case round =>
    obtain ⟨k, hk, rfl, rfl, hbr⟩ := hrel
    by_cases hlt : k < 8
    · go_wp2_with (go_at_call 63; refine (H.out k _ hlt hbr).mono ?_; rintro e w1 ⟨rfl, hb1⟩)
      exact ⟨⟨k + 1, by omega, by go_num, rfl, below_next hbr hb1⟩, by simp [intOf]; omega⟩
    · obtain rfl : k = 8 := by omega
      go_wp2
      go_ret
      exact ⟨rfl, hbr⟩

set_option maxRecDepth 100000 in
set_option maxHeartbeats 1000000 in
theorem king_any (s : Int) (w : World) :
    Calls Tryd.prog 46 #[.int .i64 s] w fun e w' => e = .returned (.int .u64 (U (R.king s))) ∧ Below w.heap.size w w' := by
  have hE : EachOk 63 w.heap.size (fun d => R.steps s [d]) (w.alloc (.cells #[.int .i64 s] 3)) := fun d w' hd hb => king1_any s _ d w' hd ((hb.cell (p := ⟨w.heap.size, 0, none⟩) (by simp)).trans (by rw [World.cell?_alloc_at _ _ _ _ rfl]; rfl))
  have HE := Lib.hid hE
  clear hE
  have hmf : ∀ (fn : Fn) (first cap : Array Value) (w : World), (Instr.makeFunc fn first cap).run Tryd.prog w = .ok (.func fn first cap) w := fun _ _ _ _ => rfl
  go_enter Tryd.func46, Tryd.ntmps46
  go_wp2_with (go_at_call 61; refine (each_king _ _ _ HE.out).mono ?_; rintro e w1 ⟨rfl, hb1⟩)
  go_ret
  exact ⟨rfl, ((Below.refl _ _).alloc (Nat.le_refl _) _).trans (hb1.mono (by simp))⟩

set_option maxRecDepth 100000 in
set_option maxHeartbeats 1000000 in
theorem pawn_any (c : Int) (s : Int) (w : World) :
    Calls Tryd.prog 43 #[.int .u8 c, .int .i64 s] w fun e w' => e = .returned (.int .u64 (U (R.pawn c s))) ∧ Below w.heap.size w w' := by
  by_cases h : c = 0
  · subst h
    go_enter Tryd.func43, Tryd.ntmps43
    go_wp2_with fail
    go_outline
    refine (rsteps_any s _ 1 [1] _ rfl (by omega) (by simp) (by simp) (cells_new _ [1] _)).mono ?_
    rintro e w1 ⟨rfl, hb1⟩
    go_wp2_with fail
    refine (rsteps_any s _ 1 [7] _ rfl (by omega) (by simp) (by simp) (cells_new _ [7] _)).mono ?_
    rintro e w7 ⟨rfl, hb7⟩
    go_wp2
    go_ret
    have k1 : Below w.heap.size w w1 := ((Below.refl _ _).alloc (Nat.le_refl _) _).trans (hb1.mono (by simp))
    exact ⟨rfl, below_next (k1.alloc k1.size _) hb7⟩
  · by_cases h1 : c = 1
    · subst h1
      go_enter Tryd.func43, Tryd.ntmps43
      go_wp2_with fail
      refine (rsteps_any s _ 1 [3] _ rfl (by omega) (by simp) (by simp) (cells_new _ [3] _)).mono ?_
      rintro e w1 ⟨rfl, hb1⟩
      go_wp2_with fail
      refine (rsteps_any s _ 1 [5] _ rfl (by omega) (by simp) (by simp) (cells_new _ [5] _)).mono ?_
      rintro e w7 ⟨rfl, hb7⟩
      go_wp2
      go_ret
      have k1 : Below w.heap.size w w1 := ((Below.refl _ _).alloc (Nat.le_refl _) _).trans (hb1.mono (by simp))
      exact ⟨rfl, below_next (k1.alloc k1.size _) hb7⟩
    · have e0 : (c == 0) = false := by simpa using h
      have e1 : (c == 1) = false := by simpa using h1
      go_enter Tryd.func43, Tryd.ntmps43
      go_wp2
      go_ret
      exact ⟨ret_int (by unfold R.pawn; rw [if_neg h, if_neg h1]; rfl), Below.refl _ _⟩

theorem R.orTo_zero (g : Nat → BitVec 64) (k : Nat) (h : ∀ j, k ≤ j → g j = 0#64) : ∀ n, k ≤ n → R.orTo g n = R.orTo g k := by
  intro n
  induction n with
  | zero => intro hk; rw [show k = 0 by omega]
  | succ n ih =>
    intro hk
    by_cases e : k = n + 1
    · rw [e]
    · rw [R.orTo, ih (by omega), h n (by omega)]; unfold bOr; simp
theorem B.shift_zero (d : Nat) : B.shift 0#64 d = 0#64 := by
  unfold B.shift
  split <;> rfl
theorem R.rayAt_zero (s : Int) (d k : Nat) (h : R.rayAt s d k = 0#64) : ∀ j, k ≤ j → R.rayAt s d j = 0#64 := by
  intro j
  induction j with
  | zero => intro hk; rw [← h, show k = 0 by omega]
  | succ j ih =>
    intro hk
    by_cases e : k = j + 1
    · rw [← e]; exact h
    · rw [R.rayAt, ih (by omega), B.shift_zero]
theorem R.ray_ends : ∀ (s : Fin 64) (d : Fin 8), R.rayAt ((s.val : Nat) : Int) d.val 8 = 0#64 := by decide +kernel
theorem R.ray_out (s : Int) (d : Nat) (h : s < 0 ∨ 64 ≤ s) : R.rayAt s d 8 = 0#64 := by
  have : R.rayAt s d 0 = 0#64 := by
    unfold R.rayAt R.steps B.put
    rw [B.one_out s h]
    exact B.shift_zero d
  exact R.rayAt_zero s d 0 this 8 (by omega)
theorem R.ray_end (s : Int) (d : Nat) (hd : d < 8) : R.rayAt s d 8 = 0#64 := by
  by_cases h : s < 0 ∨ 64 ≤ s
  · exact R.ray_out s d h
  · have := R.ray_ends ⟨s.toNat, by omega⟩ ⟨d, hd⟩
    simpa [Int.toNat_of_nonneg (show 0 ≤ s by omega)] using this

set_option maxRecDepth 100000 in
set_option maxHeartbeats 1000000 in
theorem ray_any (s : Int) (d : Nat) (w : World) (hd : d < 8) :
    Calls Tryd.prog 74 #[.int .i64 s, .int .i64 (d : Int)] w fun e w' => e = .returned (.int .u64 (U (R.ray s d))) ∧ Below w.heap.size w w' := by
  go_enter Tryd.func74, Tryd.ntmps74
  go_wp2_with (go_at_call 59; refine (rsteps_any s _ 1 [d] _ rfl (by omega) (by simpa using hd) (by simp) (cells_new _ [d] _)).mono ?_; rintro e w1 ⟨rfl, hb1⟩)
  have hb : Below w.heap.size w w1 := ((Below.refl _ _).alloc (Nat.le_refl _) _).trans (hb1.mono (by simp))
  have Hb := Lib.hid hb
  clear hb hb1
  go_loopg [5, 6] 8 (fun g v x wr => ∃ k : Nat, k + g = 8 ∧ v = .int .u64 (U (R.orTo (R.rayAt s d) k)) ∧ x = .int .u64 (U (R.rayAt s d k)) ∧ Below w.heap.size w wr)
  case atStart => exact ⟨0, rfl, rfl, rfl, Hb.out⟩
  case round =>
    obtain ⟨k, hk, rfl, rfl, hbr⟩ := hrel
    by_cases hz : R.rayAt s d k = 0#64
    · have hq : (U (R.rayAt s d k) == 0) = true := by rw [U_zero]; simpa using hz
      have Hz := Lib.hid hz
      clear hz
      have hq2 : (U (R.rayAt s d k) != 0) = false := by rw [bne, hq]; rfl
      go_wp2
      go_ret
      exact ⟨ret_int (by unfold R.ray; rw [R.orTo_zero _ k (R.rayAt_zero s d k Hz.out) 8 (by omega)]), hbr⟩
    · have hq : (U (R.rayAt s d k) == 0) = false := by rw [U_zero]; simpa using hz
      have hq2 : (U (R.rayAt s d k) != 0) = true := by rw [bne, hq]; rfl
      have hk8 : k < 8 := by
        apply Classical.byContradiction
        intro hn
        obtain rfl : k = 8 := by omega
        exact hz (R.ray_end s d hd)
      have Hz := Lib.hid hz
      clear hz
      go_wp2_with (go_at_call 69; refine (bshift_any _ _ hd _).mono ?_; rintro e w2 ⟨rfl, hb2⟩)
      go_roundg (gk - 1)
      case measure => omega
      case rel => exact ⟨k + 1, by omega, rfl, rfl, below_next hbr hb2⟩

end Go.Proofs.YtdfgpbighadplaaDoor
