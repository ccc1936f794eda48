/- The document's answer of layer 8: Beside, King, and what leans on them. -/
import Derived.Test.YtdfgpbighadplaaDoorRef08b
namespace Go.Proofs.YtdfgpbighadplaaDoor
open Go.RowKit Go.Sort

theorem tdiv8 (a : Nat) : (a : Int).tdiv 8 = (a : Int) / 8 := Int.tdiv_eq_ediv_of_nonneg (by omega)
theorem tmod8 (a : Nat) : (a : Int).tmod 8 = (a : Int) % 8 := Int.tmod_eq_emod_of_nonneg (by omega)

set_option maxRecDepth 100000 in
set_option maxHeartbeats 1000000 in
theorem d8beside_any (a b : Nat) (w : World) (ha : a < 64) (hb : b < 64) :
    Calls Tryd.prog 35 #[.int .i64 (a : Int), .int .i64 (b : Int)] w fun e w' => e = .returned (.bool (D.beside a b)) ∧ w = w' := by
  have q1 := tdiv8 a
  have q2 := tdiv8 b
  have q3 := tmod8 a
  have q4 := tmod8 b
  by_cases h1 : (a : Int) = b
  · have e := Lib.hid (show D.beside a b = false by unfold D.beside; rw [decide_eq_false (by simpa using h1)]; rfl)
    have hne : ((a : Int) != (b : Int)) = false := by simpa using h1
    clear h1
    go_enter Tryd.func35, Tryd.ntmps35
    go_wp2
    go_ret
    exact ⟨ret_bool e.out.symm, rfl⟩
  · have hne : ((a : Int) != (b : Int)) = true := by simpa using h1
    cases h2 : decide (D.abs ((a : Int) / 8 - (b : Int) / 8) ≤ 1)
    · have e := Lib.hid (show D.beside a b = false by unfold D.beside; rw [h2]; simp)
      clear h1
      go_enter Tryd.func35, Tryd.ntmps35
      go_wp2_with (go_at_call 34; refine (d8abs_any _ _ (by omega) (by omega)).mono ?_; rintro e w' ⟨rfl, rfl⟩)
      go_ret
      exact ⟨ret_bool e.out.symm, rfl⟩
    · have e := Lib.hid (show D.beside a b = decide (D.abs ((a : Int) % 8 - (b : Int) % 8) ≤ 1) by unfold D.beside; rw [h2, decide_eq_true (p := (a : Int) ≠ b) h1]; rfl)
      clear h1
      go_enter Tryd.func35, Tryd.ntmps35
      go_wp2_with (go_at_call 34; refine (d8abs_any _ _ (by omega) (by omega)).mono ?_; rintro e w' ⟨rfl, rfl⟩)
      go_ret
      exact ⟨ret_bool e.out.symm, rfl⟩

theorem d8beside_eq (a b : Nat) (v : Bool) (w : World) (ha : a < 64) (hb : b < 64) (h : D.beside a b = v) :
    Calls Tryd.prog 35 #[.int .i64 (a : Int), .int .i64 (b : Int)] w fun e w' => e = .returned (.bool v) ∧ w = w' := by
  rw [← h]; exact d8beside_any a b w ha hb

namespace D
theorem first_bd (p : Nat → Bool) : ∀ n k, first p k n = -1 ∨ ∃ j, j < k + n ∧ first p k n = (j : Int)
  | 0, _ => .inl rfl
  | n + 1, k => by
    rw [first]
    split
    · exact .inr ⟨k, by omega, rfl⟩
    · rcases first_bd p n (k + 1) with h | ⟨j, hj, h⟩
      · exact .inl h
      · exact .inr ⟨j, by omega, h⟩
theorem find_bd (c : Nat → Int) (color kind : Int) : find c color kind = -1 ∨ ∃ j : Nat, j < 64 ∧ find c color kind = (j : Int) := by
  have := first_bd (fun s => is c s color kind) 64 0
  simpa [find] using this
/-- Does the other king stand beside? (From k on.) -/
def near (c : Nat → Int) (color : Int) (s : Int) : Nat → Nat → Bool
  | _, 0 => false
  | k, n + 1 => (is c k (K.oc color) 6 && beside k s) || near c color s (k + 1) n
def king (c : Nat → Int) (color : Int) : Int :=
  if (!royal (c 0) color || decide (find c color 6 < 0)) = true then -1
  else if (c 0 == 3 && near c color (find c color 6) 0 64) = true then -1 else find c color 6
theorem near_yes (c : Nat → Int) (color s : Int) (k n : Nat) (h : (is c k (K.oc color) 6 && beside k s) = true) (hn : 0 < n) : near c color s k n = true := by
  obtain ⟨m, rfl⟩ : ∃ m, n = m + 1 := ⟨n - 1, by omega⟩
  rw [near, h]; rfl
theorem near_no (c : Nat → Int) (color s : Int) (k n : Nat) (h : (is c k (K.oc color) 6 && beside k s) = false) (hn : 0 < n) : near c color s k n = near c color s (k + 1) (n - 1) := by
  obtain ⟨m, rfl⟩ : ∃ m, n = m + 1 := ⟨n - 1, by omega⟩
  rw [near, h]; rfl
end D

theorem d7royal_eq (v color : Int) (b : Bool) (w : World) (h : D.royal v color = b) :
    Calls Tryd.prog 54 #[.int .u8 v, .int .u8 color] w fun e w' => e = .returned (.bool b) ∧ w = w' := by
  rw [← h]; exact d7royal_any v color w

set_option maxRecDepth 100000 in
set_option maxHeartbeats 1000000 in
theorem d8king_any (c : Nat → Int) (color : Int) (w : World) (hc : BdOk c) :
    Calls Tryd.prog 33 #[.agg (posC c), .int .u8 color] w fun e w' => e = .returned (.int .i64 (D.king c color)) ∧ Below w.heap.size w w' := by
  have Hc := Lib.hid hc
  clear hc
  have hcv : ∀ w1 : World, Below (w.alloc (.cells (posC c) 31)).heap.size (w.alloc (.cells (posC c) 31)) w1 → w1.cell? ⟨w.heap.size, 0, none⟩ = some (.int .u8 (c 0)) := fun w1 hb => by
    have hp : w1.heap[w.heap.size]? = some (.cells (posC c) 31 (0, 0)) := (hb.block _ (by simp)).trans (heap_alloc_new _ _)
    simp only [World.cell?, hp]; exact posC_0 c
  cases hr : D.royal (c 0) color
  · have e := Lib.hid (show D.king c color = -1 by unfold D.king; rw [hr]; rfl)
    go_enter Tryd.func33, Tryd.ntmps33
    go_wp2_with (first | ((with_reducible refine wp_load_pos rfl _ rfl c ?_ ?_); · (exact ⟨_, _, _, rfl, heap_alloc_new _ _⟩)) | (go_at_call 53; refine (d8find_any c _ _ _ Hc.out).mono ?_; rintro e w1 ⟨rfl, hb1⟩; have hcw := hcv _ hb1) | (go_at_call 54; refine (d7royal_eq _ _ false _ hr).mono ?_; rintro e w' ⟨rfl, rfl⟩))
    go_ret
    exact ⟨ret_int e.out.symm, ((Below.refl _ _).alloc (Nat.le_refl _) _).trans (hb1.mono (by simp))⟩
  · rcases D.find_bd c color 6 with hf | ⟨n, hn, hf⟩
    · have e := Lib.hid (show D.king c color = -1 by unfold D.king; rw [hr, hf]; rfl)
      have Hf := Lib.hid hf
      clear hf
      go_enter Tryd.func33, Tryd.ntmps33
      go_wp2_with (first | ((with_reducible refine wp_load_pos rfl _ rfl c ?_ ?_); · (exact ⟨_, _, _, rfl, heap_alloc_new _ _⟩)) | (go_at_call 53; refine (d8find_any c _ _ _ Hc.out).mono ?_; rw [Hf.out]; rintro e w1 ⟨rfl, hb1⟩; have hcw := hcv _ hb1) | (go_at_call 54; refine (d7royal_eq _ _ true _ hr).mono ?_; rintro e w' ⟨rfl, rfl⟩))
      go_ret
      exact ⟨ret_int e.out.symm, ((Below.refl _ _).alloc (Nat.le_refl _) _).trans (hb1.mono (by simp))⟩
    · have Hf := Lib.hid hf
      have ek := Lib.hid (show D.king c color = if (c 0 == 3 && D.near c color n 0 64) = true then -1 else (n : Int) by
        unfold D.king; rw [hr, hf, if_neg (by simp)])
      clear hf
      go_enter Tryd.func33, Tryd.ntmps33
      go_wp2_with (first | ((with_reducible refine wp_load_pos rfl _ rfl c ?_ ?_); · (exact ⟨_, _, _, rfl, heap_alloc_new _ _⟩)) | (go_at_call 53; refine (d8find_any c _ _ _ Hc.out).mono ?_; rw [Hf.out]; rintro e w1 ⟨rfl, hb1⟩; have hcw := hcv _ hb1) | (go_at_call 54; refine (d7royal_eq _ _ true _ hr).mono ?_; rintro e w' ⟨rfl, rfl⟩))
      have Hp := Lib.hid ((hb1.block w.heap.size (by simp)).trans (heap_alloc_new w (.cells (posC c) 31)))
      have HW := Lib.hid (((Below.refl w.heap.size w).alloc (Nat.le_refl _) (.cells (posC c) 31)).trans (hb1.mono (by simp)))
      clear hb1
      cases hv3 : (c 0 == 3)
      · have e := Lib.hid (show D.king c color = (n : Int) by rw [ek.out, hv3]; rfl)
        go_loopw [6] (fun i wr => i = .int .i64 0 ∧ wr.cell? ⟨w.heap.size, 0, none⟩ = some (.int .u8 (c 0)) ∧ Below w.heap.size w wr) (fun _ _ => 0)
        case atStart => exact ⟨rfl, hcw, HW.out⟩
        case round =>
          obtain ⟨rfl, hcr, hbr⟩ := hrel
          go_wp2
          go_ret
          exact ⟨ret_int e.out.symm, hbr⟩
      · go_loopw [6] (fun i wr => ∃ k : Nat, k ≤ 64 ∧ i = .int .i64 (k : Int) ∧ D.near c color n 0 64 = D.near c color n k (64 - k) ∧ wr.heap[w.heap.size]? = some (.cells (posC c) 31 (0, 0)) ∧ wr.cell? ⟨w.heap.size, 0, none⟩ = some (.int .u8 (c 0)) ∧ Below w.heap.size w wr) (fun i _ => 64 - (intOf i).toNat)
        case atStart => exact ⟨0, Nat.zero_le _, rfl, rfl, Hp.out, hcw, HW.out⟩
        case round =>
          obtain ⟨k, hk, rfl, he, hp, hcr, hbr⟩ := hrel
          have He := Lib.hid he
          have hz := (Array.getElem?_eq_some_iff.1 hp).1
          clear he
          by_cases hlt : k < 64
          · cases hi : D.is c k (K.oc color) 6
            · have Hi := Lib.hid hi
              unfold K.oc at hi
              go_wp2_with (first | ((with_reducible refine wp_load_pos rfl _ rfl c ?_ ?_); · (exact ⟨_, _, _, rfl, hp⟩)) | (go_at_call 55; refine (d8is_eq c k _ _ false _ Hc.out hlt hi).mono ?_; rintro e w2 ⟨rfl, hb2⟩))
              refine ⟨⟨k + 1, by omega, by go_num, ?_, (hb2.block _ hz).trans hp, (hb2.cell (p := ⟨w.heap.size, 0, none⟩) hz).trans hcr, below_next hbr hb2⟩, by simp [intOf]; omega⟩
              rw [He.out, D.near_no _ _ _ _ _ (by rw [Hi.out]; rfl) (by omega)]
              rfl
            · have Hi := Lib.hid hi
              unfold K.oc at hi
              cases hb : D.beside k n
              · go_wp2_with (first | ((with_reducible refine wp_load_pos rfl _ rfl c ?_ ?_); · (exact ⟨_, _, _, rfl, hp⟩)) | (go_at_call 55; refine (d8is_eq c k _ _ true _ Hc.out hlt hi).mono ?_; rintro e w2 ⟨rfl, hb2⟩) | (go_at_call 35; refine (d8beside_eq k n false _ hlt hn hb).mono ?_; rintro e w' ⟨rfl, rfl⟩))
                refine ⟨⟨k + 1, by omega, by go_num, ?_, (hb2.block _ hz).trans hp, (hb2.cell (p := ⟨w.heap.size, 0, none⟩) hz).trans hcr, below_next hbr hb2⟩, by simp [intOf]; omega⟩
                rw [He.out, D.near_no _ _ _ _ _ (by rw [Hi.out, hb]; rfl) (by omega)]
                rfl
              · go_wp2_with (first | ((with_reducible refine wp_load_pos rfl _ rfl c ?_ ?_); · (exact ⟨_, _, _, rfl, hp⟩)) | (go_at_call 55; refine (d8is_eq c k _ _ true _ Hc.out hlt hi).mono ?_; rintro e w2 ⟨rfl, hb2⟩) | (go_at_call 35; refine (d8beside_eq k n true _ hlt hn hb).mono ?_; rintro e w' ⟨rfl, rfl⟩))
                go_ret
                refine ⟨ret_int ?_, below_next hbr hb2⟩
                rw [ek.out, hv3, He.out, D.near_yes _ _ _ _ _ (by rw [Hi.out, hb]; rfl) (by omega)]
                rfl
          · obtain rfl : k = 64 := by omega
            go_wp2
            go_ret
            refine ⟨ret_int ?_, hbr⟩
            rw [ek.out, hv3, He.out]
            rfl

end Go.Proofs.YtdfgpbighadplaaDoor
