/- Several texts in one: DocA. -/

import Derived.Test.YtgkndhpolcnjbaaGreatDoorZb
import Derived.Test.YtgkndhpolcnjbaaGreatDoorZc
namespace Go.Proofs.YtgkndhpolcnjbaaGreatDoor
open Go.RowKit Go.Sort
namespace D
/-- A piece's color: any number's. -/
def color (x : Int) : Int := x / 8
def abs (n : Int) : Int := if n < 0 then -n else n
def sign (n : Int) : Int := if n < 0 then -1 else if n > 0 then 1 else 0
def is (c : Nat → Int) (s : Nat) (color kind : Int) : Bool := P.kind (c (1 + s)) == kind && D.color (c (1 + s)) == color
def beside (a b : Int) : Bool := decide (a ≠ b) && (decide (abs (a / 8 - b / 8) ≤ 1) && decide (abs (a % 8 - b % 8) ≤ 1))
def royal (v color : Int) : Bool := decide (v < 9) && (decide (color < 2) && (decide (v ≠ 4) && (decide (v ≠ 7) || decide (color = 1))))
theorem kind_of (x : Int) (h0 : 0 ≤ x) (h1 : x ≤ 255) : P.kind x = if x > 15 ∨ x % 8 < 1 ∨ x % 8 > 6 then 0 else x % 8 :=
  all8 (fun x => P.kind x = if x > 15 ∨ x % 8 < 1 ∨ x % 8 > 6 then 0 else x % 8) (by decide +kernel) x h0 h1
end D
set_option maxRecDepth 100000 in
set_option maxHeartbeats 1000000 in
theorem d8kind_any (x : Int) (w : World) (h0 : 0 ≤ x) (h1 : x ≤ 255) :
    Calls Tryz.prog 59 #[.int .u8 x] w fun e w' => e = .returned (.int .u8 (P.kind x)) ∧ w = w' := by
  have e := Lib.hid (D.kind_of x h0 h1)
  have hm : x.tmod 8 = x % 8 := Int.tmod_eq_emod_of_nonneg h0
  go_enter Tryz.func59, Tryz.ntmps59
  go_wp2
  all_goals
    go_ret
    refine ⟨ret_int ?_, rfl⟩
    rw [e.out]
    first | rw [if_pos (by omega)] | rw [if_neg (by omega)] | skip
    try first | rfl | omega
set_option maxRecDepth 100000 in
set_option maxHeartbeats 1000000 in
theorem d8color_any (x : Int) (w : World) (h0 : 0 ≤ x) (h1 : x ≤ 255) :
    Calls Tryz.prog 232 #[.int .u8 x] w fun e w' => e = .returned (.int .u8 (D.color x)) ∧ w = w' := by
  have hm : x.tdiv 8 = x / 8 := Int.tdiv_eq_ediv_of_nonneg h0
  have hn : x / 8 % 256 = x / 8 := by omega
  go_enter Tryz.func232, Tryz.ntmps232
  go_wp2
  go_ret
  exact ⟨ret_int (by unfold D.color; omega), rfl⟩
set_option maxRecDepth 100000 in
set_option maxHeartbeats 1000000 in
theorem d8abs_any (n : Int) (w : World) (h0 : -64 ≤ n) (h1 : n ≤ 64) :
    Calls Tryz.prog 128 #[.int .i64 n] w fun e w' => e = .returned (.int .i64 (D.abs n)) ∧ w = w' := by
  by_cases h : n < 0
  · have e := Lib.hid (show D.abs n = -n by unfold D.abs; rw [if_pos h])
    go_enter Tryz.func128, Tryz.ntmps128
    go_wp2
    go_ret
    exact ⟨ret_int (by rw [e.out]), rfl⟩
  · have e := Lib.hid (show D.abs n = n by unfold D.abs; rw [if_neg h])
    go_enter Tryz.func128, Tryz.ntmps128
    go_wp2
    go_ret
    exact ⟨ret_int (by rw [e.out]), rfl⟩
set_option maxRecDepth 100000 in
set_option maxHeartbeats 1000000 in
theorem d8sign_any (n : Int) (w : World) :
    Calls Tryz.prog 289 #[.int .i64 n] w fun e w' => e = .returned (.int .i64 (D.sign n)) ∧ w = w' := by
  by_cases h : n < 0
  · have e := Lib.hid (show D.sign n = -1 by unfold D.sign; rw [if_pos h])
    go_enter Tryz.func289, Tryz.ntmps289
    go_wp2
    go_ret
    exact ⟨ret_int (by rw [e.out]), rfl⟩
  · by_cases h2 : n > 0
    · have e := Lib.hid (show D.sign n = 1 by unfold D.sign; rw [if_neg h, if_pos h2])
      go_enter Tryz.func289, Tryz.ntmps289
      go_wp2
      go_ret
      exact ⟨ret_int (by rw [e.out]), rfl⟩
    · have e := Lib.hid (show D.sign n = 0 by unfold D.sign; rw [if_neg h, if_neg h2])
      go_enter Tryz.func289, Tryz.ntmps289
      go_wp2
      go_ret
      exact ⟨ret_int (by rw [e.out]), rfl⟩
end Go.Proofs.YtgkndhpolcnjbaaGreatDoor
namespace Go.Proofs.YtgkndhpolcnjbaaGreatDoor
open Go.RowKit Go.Sort
/-- A square's cell, in the box of a position. -/
theorem bd_cell {w : World} {b : Nat} {t : TypeId} {fr : Nat × Nat} {c : Nat → Int} (hg : w.heap[b]? = some (.cells (posC c) t fr)) (s : Nat) (hs : s < 64) : w.cell? ⟨b, 1 + s, none⟩ = some (.int .u8 (c (1 + s))) := by
  simp only [World.cell?, hg]; exact posC_board c s hs
set_option maxRecDepth 100000 in
set_option maxHeartbeats 1000000 in
theorem d8is_any (c : Nat → Int) (s : Nat) (color kind : Int) (w : World) (hc : BdOk c) (hs : s < 64) :
    Calls Tryz.prog 187 #[.agg (posC c), .int .i64 (s : Int), .int .u8 color, .int .u8 kind] w fun e w' => e = .returned (.bool (D.is c s color kind)) ∧ Below w.heap.size w w' := by
  obtain ⟨h0, h1⟩ := hc s hs
  clear hc
  have hcl := bd_cell (heap_alloc_new w (.cells (posC c) 31)) s hs
  cases hk : (P.kind (c (1 + s)) == kind)
  · have e := Lib.hid (show D.is c s color kind = false by unfold D.is; rw [hk]; rfl)
    go_enter Tryz.func187, Tryz.ntmps187
    go_wp2_with (go_at_call 59; refine (d8kind_any _ _ h0 h1).mono ?_; rintro e w' ⟨rfl, rfl⟩)
    go_ret
    exact ⟨ret_bool e.out.symm, (Below.refl _ _).alloc (Nat.le_refl _) _⟩
  · have e := Lib.hid (show D.is c s color kind = (D.color (c (1 + s)) == color) by unfold D.is; rw [hk]; rfl)
    go_enter Tryz.func187, Tryz.ntmps187
    go_wp2_with (first | (go_at_call 59; refine (d8kind_any _ _ h0 h1).mono ?_; rintro e w' ⟨rfl, rfl⟩) | (go_at_call 232; refine (d8color_any _ _ h0 h1).mono ?_; rintro e w' ⟨rfl, rfl⟩))
    go_ret
    exact ⟨ret_bool e.out.symm, (Below.refl _ _).alloc (Nat.le_refl _) _⟩
theorem d8is_eq (c : Nat → Int) (s : Nat) (color kind : Int) (b : Bool) (w : World) (hc : BdOk c) (hs : s < 64) (h : D.is c s color kind = b) :
    Calls Tryz.prog 187 #[.agg (posC c), .int .i64 (s : Int), .int .u8 color, .int .u8 kind] w fun e w' => e = .returned (.bool b) ∧ Below w.heap.size w w' := by
  rw [← h]; exact d8is_any c s color kind w hc hs
namespace D
/-- The first square from k on of which something holds; -1. -/
def first (p : Nat → Bool) : Nat → Nat → Int
  | _, 0 => -1
  | k, n + 1 => if p k then (k : Int) else first p (k + 1) n
def find (c : Nat → Int) (color kind : Int) : Int := first (fun s => is c s color kind) 0 64
theorem first_yes (p : Nat → Bool) (k n : Nat) (h : p k = true) (hn : 0 < n) : first p k n = k := by
  obtain ⟨m, rfl⟩ : ∃ m, n = m + 1 := ⟨n - 1, by omega⟩
  rw [first, if_pos h]
theorem first_no (p : Nat → Bool) (k n : Nat) (h : p k = false) (hn : 0 < n) : first p k n = first p (k + 1) (n - 1) := by
  obtain ⟨m, rfl⟩ : ∃ m, n = m + 1 := ⟨n - 1, by omega⟩
  rw [first, h]; rfl
end D
set_option maxRecDepth 100000 in
set_option maxHeartbeats 1000000 in
theorem d8find_any (c : Nat → Int) (color kind : Int) (w : World) (hc : BdOk c) :
    Calls Tryz.prog 186 #[.agg (posC c), .int .u8 color, .int .u8 kind] w fun e w' => e = .returned (.int .i64 (D.find c color kind)) ∧ Below w.heap.size w w' := by
  have Hc := Lib.hid hc
  clear hc
  go_enter Tryz.func186, Tryz.ntmps186
  go_wp2
  have HW := Lib.hid (heap_alloc_new w (.cells (posC c) 31))
  have hb0 : Below w.heap.size w (w.alloc (.cells (posC c) 31)) := (Below.refl _ _).alloc (Nat.le_refl _) _
  have Hb0 := Lib.hid hb0
  clear hb0
  go_loopw [7] (fun i wr => ∃ k : Nat, k ≤ 64 ∧ i = .int .i64 (k : Int) ∧ D.find c color kind = D.first (fun s => D.is c s color kind) k (64 - k) ∧ wr.heap[w.heap.size]? = some (.cells (posC c) 31 (0, 0)) ∧ Below w.heap.size w wr) (fun i _ => 64 - (intOf i).toNat)
  case atStart => exact ⟨0, Nat.zero_le _, rfl, rfl, HW.out, Hb0.out⟩
  case round =>
    obtain ⟨k, hk, rfl, he, hp, hbr⟩ := hrel
    have He := Lib.hid he
    clear he
    by_cases hlt : k < 64
    · cases hi : D.is c k color kind
      · go_wp2_with (first | ((with_reducible refine wp_load_pos rfl _ rfl c ?_ ?_); · (exact ⟨_, _, _, rfl, hp⟩)) | (go_at_call 187; refine (d8is_eq c k _ _ false _ Hc.out hlt hi).mono ?_; rintro e w1 ⟨rfl, hb1⟩))
        refine ⟨⟨k + 1, by omega, by go_num, ?_, (hb1.block _ (Array.getElem?_eq_some_iff.1 hp).1).trans hp, below_next hbr hb1⟩, by simp [intOf]; omega⟩
        rw [He.out, D.first_no _ _ _ hi (by omega)]
        rfl
      · go_wp2_with (first | ((with_reducible refine wp_load_pos rfl _ rfl c ?_ ?_); · (exact ⟨_, _, _, rfl, hp⟩)) | (go_at_call 187; refine (d8is_eq c k _ _ true _ Hc.out hlt hi).mono ?_; rintro e w1 ⟨rfl, hb1⟩))
        go_ret
        exact ⟨ret_int (by rw [He.out, D.first_yes _ _ _ hi (by omega)]), below_next hbr hb1⟩
    · obtain rfl : k = 64 := by omega
      go_wp2
      go_ret
      exact ⟨ret_int (by rw [He.out]; rfl), hbr⟩
end Go.Proofs.YtgkndhpolcnjbaaGreatDoor
namespace Go.Proofs.YtgkndhpolcnjbaaGreatDoor
open Go.RowKit Go.Sort
theorem tdiv8 (a : Nat) : (a : Int).tdiv 8 = (a : Int) / 8 := Int.tdiv_eq_ediv_of_nonneg (by omega)
theorem tmod8 (a : Nat) : (a : Int).tmod 8 = (a : Int) % 8 := Int.tmod_eq_emod_of_nonneg (by omega)
set_option maxRecDepth 100000 in
set_option maxHeartbeats 1000000 in
theorem d8beside_any (a b : Nat) (w : World) (ha : a < 64) (hb : b < 64) :
    Calls Tryz.prog 60 #[.int .i64 (a : Int), .int .i64 (b : Int)] w fun e w' => e = .returned (.bool (D.beside a b)) ∧ w = w' := by
  have q1 := tdiv8 a
  have q2 := tdiv8 b
  have q3 := tmod8 a
  have q4 := tmod8 b
  by_cases h1 : (a : Int) = b
  · have e := Lib.hid (show D.beside a b = false by unfold D.beside; rw [decide_eq_false (by simpa using h1)]; rfl)
    have hne : ((a : Int) != (b : Int)) = false := by simpa using h1
    clear h1
    go_enter Tryz.func60, Tryz.ntmps60
    go_wp2
    go_ret
    exact ⟨ret_bool e.out.symm, rfl⟩
  · have hne : ((a : Int) != (b : Int)) = true := by simpa using h1
    cases h2 : decide (D.abs ((a : Int) / 8 - (b : Int) / 8) ≤ 1)
    · have e := Lib.hid (show D.beside a b = false by unfold D.beside; rw [h2]; simp)
      clear h1
      go_enter Tryz.func60, Tryz.ntmps60
      go_wp2_with (go_at_call 128; refine (d8abs_any _ _ (by omega) (by omega)).mono ?_; rintro e w' ⟨rfl, rfl⟩)
      go_ret
      exact ⟨ret_bool e.out.symm, rfl⟩
    · have e := Lib.hid (show D.beside a b = decide (D.abs ((a : Int) % 8 - (b : Int) % 8) ≤ 1) by unfold D.beside; rw [h2, decide_eq_true (p := (a : Int) ≠ b) h1]; rfl)
      clear h1
      go_enter Tryz.func60, Tryz.ntmps60
      go_wp2_with (go_at_call 128; refine (d8abs_any _ _ (by omega) (by omega)).mono ?_; rintro e w' ⟨rfl, rfl⟩)
      go_ret
      exact ⟨ret_bool e.out.symm, rfl⟩
theorem d8beside_eq (a b : Nat) (v : Bool) (w : World) (ha : a < 64) (hb : b < 64) (h : D.beside a b = v) :
    Calls Tryz.prog 60 #[.int .i64 (a : Int), .int .i64 (b : Int)] w fun e w' => e = .returned (.bool v) ∧ w = w' := by
  rw [← h]; exact d8beside_any a b w ha hb
namespace D
theorem first_bd (p : Nat → Bool) : ∀ n k, first p k n = -1 ∨ ∃ j, j < k + n ∧ first p k n = (j : Int)
  | 0, _ => .inl rfl
  | n + 1, k => by
    rw [first]
    split
    · exact .inr ⟨k, by omega, rfl⟩
    · rcases first_bd p n (k + 1) with h | ⟨j, hj, h⟩
      · exact .inl h
      · exact .inr ⟨j, by omega, h⟩
theorem find_bd (c : Nat → Int) (color kind : Int) : find c color kind = -1 ∨ ∃ j : Nat, j < 64 ∧ find c color kind = (j : Int) := by
  have := first_bd (fun s => is c s color kind) 64 0
  simpa [find] using this
/-- Does the other king stand beside? (From k on.) -/
def near (c : Nat → Int) (color : Int) (s : Int) : Nat → Nat → Bool
  | _, 0 => false
  | k, n + 1 => (is c k (K.oc color) 6 && beside k s) || near c color s (k + 1) n
def king (c : Nat → Int) (color : Int) : Int :=
  if (!royal (c 0) color || decide (find c color 6 < 0)) = true then -1
  else if (c 0 == 3 && near c color (find c color 6) 0 64) = true then -1 else find c color 6
theorem near_yes (c : Nat → Int) (color s : Int) (k n : Nat) (h : (is c k (K.oc color) 6 && beside k s) = true) (hn : 0 < n) : near c color s k n = true := by
  obtain ⟨m, rfl⟩ : ∃ m, n = m + 1 := ⟨n - 1, by omega⟩
  rw [near, h]; rfl
theorem near_no (c : Nat → Int) (color s : Int) (k n : Nat) (h : (is c k (K.oc color) 6 && beside k s) = false) (hn : 0 < n) : near c color s k n = near c color s (k + 1) (n - 1) := by
  obtain ⟨m, rfl⟩ : ∃ m, n = m + 1 := ⟨n - 1, by omega⟩
  rw [near, h]; rfl
end D
end Go.Proofs.YtgkndhpolcnjbaaGreatDoor
namespace Go.Proofs.YtgkndhpolcnjbaaGreatDoor
open Go.RowKit Go.Sort
namespace D
def step (a b : Nat) : Int := 8 * sign ((b : Int) / 8 - (a : Int) / 8) + sign ((b : Int) % 8 - (a : Int) % 8)
theorem sign_bd (n : Int) : -1 ≤ sign n ∧ sign n ≤ 1 := by unfold sign; split <;> (try split) <;> omega
/-- The squares from a to b, one step each: m of them behind a, the last is b. -/
structure Path (a b m : Nat) (q : Nat → Nat) : Prop where
  start : q 0 = a
  last : q m = b
  next : ∀ k, k < m → (q (k + 1) : Int) = q k + step a b
  bd : ∀ k, k ≤ m → q k < 64
  ne : ∀ k, 0 < k → k < m → q k ≠ b
  pos : 1 ≤ m
/-- Is there nothing on the squares from the k-th on? -/
def clear (c : Nat → Int) (q : Nat → Nat) : Nat → Nat → Bool
  | _, 0 => true
  | k, n + 1 => P.kind (c (1 + q k)) == 0 && clear c q (k + 1) n
end D
theorem d8kind_eq (x k : Int) (w : World) (h0 : 0 ≤ x) (h1 : x ≤ 255) (h : P.kind x = k) :
    Calls Tryz.prog 59 #[.int .u8 x] w fun e w' => e = .returned (.int .u8 k) ∧ w = w' := by
  rw [← h]; exact d8kind_any x w h0 h1
set_option maxRecDepth 100000 in
set_option maxHeartbeats 1000000 in
theorem d8clear_any (c : Nat → Int) (a b m : Nat) (q : Nat → Nat) (w : World) (hc : BdOk c) (hq : D.Path a b m q) :
    Calls Tryz.prog 259 #[.agg (posC c), .int .i64 (a : Int), .int .i64 (b : Int)] w fun e w' => e = .returned (.bool (D.clear c q 1 (m - 1))) ∧ Below w.heap.size w w' := by
  have Hc := Lib.hid hc
  have Hq := Lib.hid hq
  have ha : a < 64 := by have := hq.bd 0 (by omega); rwa [hq.start] at this
  have hb : b < 64 := by have := hq.bd m (by omega); rwa [hq.last] at this
  have h1 : (a : Int) + D.step a b = (q 1 : Int) := by have := hq.next 0 hq.pos; rw [hq.start] at this; simpa using this.symm
  have hb1 := hq.bd 1 hq.pos
  have hpos := hq.pos
  have q1 := tdiv8 a
  have q2 := tdiv8 b
  have q3 := tmod8 a
  have q4 := tmod8 b
  have s1 := D.sign_bd ((b : Int) / 8 - (a : Int) / 8)
  have s2 := D.sign_bd ((b : Int) % 8 - (a : Int) % 8)
  have hst : D.step a b = 8 * D.sign ((b : Int) / 8 - (a : Int) / 8) + D.sign ((b : Int) % 8 - (a : Int) % 8) := rfl
  generalize hS : D.step a b = st at *
  clear hc hq
  go_enter Tryz.func259, Tryz.ntmps259
  go_wp2_with (go_at_call 289; refine (d8sign_any _ _).mono ?_; rintro e w' ⟨rfl, rfl⟩)
  rw [← hst, h1]
  have HW := Lib.hid (heap_alloc_new w (.cells (posC c) 31))
  have Hb0 := Lib.hid ((Below.refl w.heap.size w).alloc (Nat.le_refl _) (.cells (posC c) 31))
  clear s1 s2 hst h1 q1 q2 q3 q4
  go_loopg [8] (m - 1) (fun g i wr => ∃ k : Nat, 1 ≤ k ∧ k + g = m ∧ i = .int .i64 (q k : Int) ∧ D.clear c q 1 (m - 1) = D.clear c q k (m - k) ∧ wr.heap[w.heap.size]? = some (.cells (posC c) 31 (0, 0)) ∧ Below w.heap.size w wr)
  case atStart => exact ⟨1, Nat.le_refl _, by omega, rfl, rfl, HW.out, Hb0.out⟩
  case round =>
    obtain ⟨k, hk1, hkg, rfl, he, hp, hbr⟩ := hrel
    have He := Lib.hid he
    clear he
    have hqk := Hq.out.bd k (by omega)
    obtain ⟨x0, x1⟩ := Hc.out (q k) hqk
    have hcl := bd_cell hp (q k) hqk
    by_cases hlt : k < m
    · have hne : ((q k : Int) != (b : Int)) = true := by have := Hq.out.ne k hk1 hlt; simp; omega
      have hnx : (q k : Int) + st = (q (k + 1) : Int) := by rw [Hq.out.next k hlt, hS]
      have hqn := Hq.out.bd (k + 1) (by omega)
      by_cases hz : P.kind (c (1 + q k)) = 0
      · have e := Lib.hid (show D.clear c q k (m - k) = D.clear c q (k + 1) (m - (k + 1)) by
          rw [show m - k = (m - (k + 1)) + 1 by omega, D.clear, hz]; rfl)
        go_wp2_with (go_at_call 59; refine (d8kind_eq _ _ _ x0 x1 hz).mono ?_; rintro e w' ⟨rfl, rfl⟩)
        go_roundg (gk - 1)
        case measure => omega
        case rel => exact ⟨k + 1, by omega, by omega, rfl, by rw [He.out, e.out], hp, hbr⟩
      · have e := Lib.hid (show D.clear c q k (m - k) = false by
          rw [show m - k = (m - (k + 1)) + 1 by omega, D.clear, beq_eq_false_iff_ne.2 hz]; rfl)
        have hzb : (P.kind (c (1 + q k)) != 0) = true := by simpa using hz
        clear hz
        go_wp2_with (go_at_call 59; refine (d8kind_any _ _ x0 x1).mono ?_; rintro e w' ⟨rfl, rfl⟩)
        go_ret
        exact ⟨ret_bool (by rw [He.out, e.out]), hbr⟩
    · obtain rfl : k = m := by omega
      have hl := Hq.out.last
      rw [hl] at hcl ⊢
      go_wp2
      go_ret
      exact ⟨ret_bool (by rw [He.out, Nat.sub_self]; rfl), hbr⟩
end Go.Proofs.YtgkndhpolcnjbaaGreatDoor
namespace Go.Proofs.YtgkndhpolcnjbaaGreatDoor
open Go.RowKit Go.Sort
namespace D
def up (a b : Nat) : Int := (b : Int) / 8 - (a : Int) / 8
def aside (a b : Nat) : Int := abs ((b : Int) % 8 - (a : Int) % 8)
def straight (a b : Nat) : Bool := (up a b == 0) != (aside a b == 0)
def across (a b : Nat) : Bool := (abs (up a b) == aside a b) && decide (0 < aside a b)
def dist (a b : Nat) : Nat := (max (abs (up a b)) (aside a b)).toNat
def at' (a b k : Nat) : Nat := ((a : Int) + k * step a b).toNat
def pathB (a b : Nat) : Bool :=
  (at' a b 0 == a) && ((at' a b (dist a b) == b) && (((List.range (dist a b)).all fun k => ((at' a b (k + 1) : Nat) : Int) == (at' a b k : Int) + step a b) && (((List.range (dist a b + 1)).all fun k => decide (at' a b k < 64)) && (((List.range (dist a b)).all fun k => k == 0 || at' a b k != b) && decide (1 ≤ dist a b)))))
theorem path_of {a b : Nat} (h : pathB a b = true) : Path a b (dist a b) (at' a b) := by
  unfold pathB at h
  simp only [Bool.and_eq_true, beq_iff_eq, List.all_eq_true, List.mem_range, decide_eq_true_eq, Bool.or_eq_true, bne_iff_ne] at h
  obtain ⟨h1, h2, h3, h4, h5, h6⟩ := h
  exact ⟨h1, h2, h3, fun k hk => h4 k (by omega), fun k h0 hk => (h5 k hk).resolve_left (by omega), h6⟩
theorem lines : ∀ a b : Fin 64, (straight a.val b.val || across a.val b.val) = true → pathB a.val b.val = true := by decide +kernel
theorem path (a b : Nat) (ha : a < 64) (hb : b < 64) (h : (straight a b || across a b) = true) : Path a b (dist a b) (at' a b) := path_of (lines ⟨a, ha⟩ ⟨b, hb⟩ h)
/-- Is there nothing between two squares of one line? -/
def clr (c : Nat → Int) (a b : Nat) : Bool := clear c (at' a b) 1 (dist a b - 1)
def hits (c : Nat → Int) (a b : Nat) : Bool :=
  if P.kind (c (1 + a)) = 1 then (if color (c (1 + a)) = 0 then (up a b == 1) && (aside a b == 1) else (up a b == -1) && (aside a b == 1))
  else if P.kind (c (1 + a)) = 2 then ((abs (up a b) == 1) && (aside a b == 2)) || ((abs (up a b) == 2) && (aside a b == 1))
  else if P.kind (c (1 + a)) = 6 then beside a b
  else if P.kind (c (1 + a)) = 4 then straight a b && clr c a b
  else if P.kind (c (1 + a)) = 3 then across a b && clr c a b
  else if P.kind (c (1 + a)) = 5 then (straight a b || across a b) && clr c a b
  else false
end D
theorem d8clr_any (c : Nat → Int) (a b : Nat) (w : World) (hc : BdOk c) (ha : a < 64) (hb : b < 64) (h : (D.straight a b || D.across a b) = true) :
    Calls Tryz.prog 259 #[.agg (posC c), .int .i64 (a : Int), .int .i64 (b : Int)] w fun e w' => e = .returned (.bool (D.clr c a b)) ∧ Below w.heap.size w w' :=
  d8clear_any c a b _ _ w hc (D.path a b ha hb h)
end Go.Proofs.YtgkndhpolcnjbaaGreatDoor
namespace Go.Proofs.YtgkndhpolcnjbaaGreatDoor
open Go.RowKit Go.Sort
theorem abs8_bd (n : Int) (h0 : -64 ≤ n) (h1 : n ≤ 64) : 0 ≤ D.abs n ∧ D.abs n ≤ 64 := by unfold D.abs; split <;> omega
set_option maxRecDepth 100000 in
set_option maxHeartbeats 2000000 in
theorem d8hits_rook (c : Nat → Int) (a b : Nat) (w : World) (hc : BdOk c) (ha : a < 64) (hb : b < 64) (hk : P.kind (c (1 + a)) = 4) :
    Calls Tryz.prog 183 #[.agg (posC c), .int .i64 (a : Int), .int .i64 (b : Int)] w fun e w' => e = .returned (.bool (D.hits c a b)) ∧ Below w.heap.size w w' := by
  have q1 := tdiv8 a
  have q2 := tdiv8 b
  have q3 := tmod8 a
  have q4 := tmod8 b
  obtain ⟨h0, h1⟩ := hc a ha
  have Hc := Lib.hid hc
  clear hc
  have HW := Lib.hid (heap_alloc_new w (.cells (posC c) 31))
  have hcl := bd_cell HW.out a ha
  have has := abs8_bd ((b : Int) % 8 - (a : Int) % 8) (by omega) (by omega)
  have e : D.hits c a b = (((((b : Int) / 8 - (a : Int) / 8) == 0) != ((D.abs ((b : Int) % 8 - (a : Int) % 8)) == 0)) && D.clr c a b) := by unfold D.hits; rw [hk]; rfl
  cases hx : (D.abs ((b : Int) / 8 - (a : Int) / 8) == (D.abs ((b : Int) % 8 - (a : Int) % 8))) <;> cases hu : (((b : Int) / 8 - (a : Int) / 8) == 0) <;> cases hv : ((D.abs ((b : Int) % 8 - (a : Int) % 8)) == 0)
  all_goals
    rw [hu, hv] at e
    replace e := Lib.hid e
    have hl : Hid (D.straight a b = true → (D.straight a b || D.across a b) = true) := Lib.hid (fun h => by rw [h, Bool.true_or])
    go_enter Tryz.func183, Tryz.ntmps183
    go_wp2_with (first
      | (go_at_call 128; refine (d8abs_any _ _ (by omega) (by omega)).mono ?_; rintro e w' ⟨rfl, rfl⟩)
      | (go_at_call 59; refine (d8kind_eq _ _ _ h0 h1 hk).mono ?_; rintro e w' ⟨rfl, rfl⟩)
      | ((with_reducible refine wp_load_pos_g rfl _ rfl c ?_ ?_); · (exact ⟨_, _, _, rfl, HW.out⟩))
      | (go_at_call 259; refine (d8clr_any c a b _ Hc.out ha hb (hl.out (by unfold D.straight D.up D.aside; rw [hu, hv]; rfl))).mono ?_; rintro e w1 ⟨rfl, hb1⟩))
    go_ret
    first
      | exact ⟨ret_bool (by rw [e.out]; rfl), (Below.refl _ _).alloc (Nat.le_refl _) _⟩
      | exact ⟨ret_bool (by rw [e.out]; rfl), ((Below.refl _ _).alloc (Nat.le_refl _) _).trans (hb1.mono (by simp))⟩
end Go.Proofs.YtgkndhpolcnjbaaGreatDoor
namespace Go.Proofs.YtgkndhpolcnjbaaGreatDoor
open Go.RowKit Go.Sort
set_option maxRecDepth 100000 in
set_option maxHeartbeats 4000000 in
theorem d8hits_bishop (c : Nat → Int) (a b : Nat) (w : World) (hc : BdOk c) (ha : a < 64) (hb : b < 64) (hk : P.kind (c (1 + a)) = 3) :
    Calls Tryz.prog 183 #[.agg (posC c), .int .i64 (a : Int), .int .i64 (b : Int)] w fun e w' => e = .returned (.bool (D.hits c a b)) ∧ Below w.heap.size w w' := by
  have q1 := tdiv8 a
  have q2 := tdiv8 b
  have q3 := tmod8 a
  have q4 := tmod8 b
  obtain ⟨h0, h1⟩ := hc a ha
  have Hc := Lib.hid hc
  clear hc
  have HW := Lib.hid (heap_alloc_new w (.cells (posC c) 31))
  have hcl := bd_cell HW.out a ha
  have has := abs8_bd ((b : Int) % 8 - (a : Int) % 8) (by omega) (by omega)
  have e : D.hits c a b = (((D.abs ((b : Int) / 8 - (a : Int) / 8) == (D.abs ((b : Int) % 8 - (a : Int) % 8))) && decide (0 < (D.abs ((b : Int) % 8 - (a : Int) % 8)))) && D.clr c a b) := by unfold D.hits; rw [hk]; rfl
  cases hx : (D.abs ((b : Int) / 8 - (a : Int) / 8) == (D.abs ((b : Int) % 8 - (a : Int) % 8))) <;> cases hp : decide (0 < (D.abs ((b : Int) % 8 - (a : Int) % 8)))
  all_goals
    rw [hx, hp] at e
    replace e := Lib.hid e
    have hl : Hid (D.across a b = true → (D.straight a b || D.across a b) = true) := Lib.hid (fun h => by rw [h, Bool.or_true])
    go_enter Tryz.func183, Tryz.ntmps183
    go_wp2_with (first
      | (go_at_call 128; refine (d8abs_any _ _ (by omega) (by omega)).mono ?_; rintro e w' ⟨rfl, rfl⟩)
      | (go_at_call 59; refine (d8kind_eq _ _ _ h0 h1 hk).mono ?_; rintro e w' ⟨rfl, rfl⟩)
      | ((with_reducible refine wp_load_pos_g rfl _ rfl c ?_ ?_); · (exact ⟨_, _, _, rfl, HW.out⟩))
      | (go_at_call 259; refine (d8clr_any c a b _ Hc.out ha hb (hl.out (by unfold D.across D.up D.aside; rw [hx, hp]; rfl))).mono ?_; rintro e w1 ⟨rfl, hb1⟩))
    go_ret
    first
      | exact ⟨ret_bool (by rw [e.out] <;> rfl), (Below.refl _ _).alloc (Nat.le_refl _) _⟩
      | exact ⟨ret_bool (by rw [e.out] <;> rfl), ((Below.refl _ _).alloc (Nat.le_refl _) _).trans (hb1.mono (by simp))⟩
set_option maxRecDepth 100000 in
set_option maxHeartbeats 4000000 in
theorem d8hits_queen (c : Nat → Int) (a b : Nat) (w : World) (hc : BdOk c) (ha : a < 64) (hb : b < 64) (hk : P.kind (c (1 + a)) = 5) :
    Calls Tryz.prog 183 #[.agg (posC c), .int .i64 (a : Int), .int .i64 (b : Int)] w fun e w' => e = .returned (.bool (D.hits c a b)) ∧ Below w.heap.size w w' := by
  have q1 := tdiv8 a
  have q2 := tdiv8 b
  have q3 := tmod8 a
  have q4 := tmod8 b
  obtain ⟨h0, h1⟩ := hc a ha
  have Hc := Lib.hid hc
  clear hc
  have HW := Lib.hid (heap_alloc_new w (.cells (posC c) 31))
  have hcl := bd_cell HW.out a ha
  have has := abs8_bd ((b : Int) % 8 - (a : Int) % 8) (by omega) (by omega)
  have e : D.hits c a b = ((((((b : Int) / 8 - (a : Int) / 8) == 0) != ((D.abs ((b : Int) % 8 - (a : Int) % 8)) == 0)) || ((D.abs ((b : Int) / 8 - (a : Int) / 8) == (D.abs ((b : Int) % 8 - (a : Int) % 8))) && decide (0 < (D.abs ((b : Int) % 8 - (a : Int) % 8))))) && D.clr c a b) := by unfold D.hits; rw [hk]; rfl
  cases hx : (D.abs ((b : Int) / 8 - (a : Int) / 8) == (D.abs ((b : Int) % 8 - (a : Int) % 8))) <;> cases hp : decide (0 < (D.abs ((b : Int) % 8 - (a : Int) % 8))) <;> cases hu : (((b : Int) / 8 - (a : Int) / 8) == 0) <;> cases hv : ((D.abs ((b : Int) % 8 - (a : Int) % 8)) == 0)
  all_goals
    rw [hx, hp, hu, hv] at e
    replace e := Lib.hid e
    have hl : Hid ((D.straight a b || D.across a b) = true → (D.straight a b || D.across a b) = true) := Lib.hid (fun h => h)
    go_enter Tryz.func183, Tryz.ntmps183
    go_wp2_with (first
      | (go_at_call 128; refine (d8abs_any _ _ (by omega) (by omega)).mono ?_; rintro e w' ⟨rfl, rfl⟩)
      | (go_at_call 59; refine (d8kind_eq _ _ _ h0 h1 hk).mono ?_; rintro e w' ⟨rfl, rfl⟩)
      | ((with_reducible refine wp_load_pos_g rfl _ rfl c ?_ ?_); · (exact ⟨_, _, _, rfl, HW.out⟩))
      | (go_at_call 259; refine (d8clr_any c a b _ Hc.out ha hb (hl.out (by unfold D.straight D.across D.up D.aside; rw [hx, hp, hu, hv]; rfl))).mono ?_; rintro e w1 ⟨rfl, hb1⟩))
    go_ret
    first
      | exact ⟨ret_bool (by rw [e.out] <;> rfl), (Below.refl _ _).alloc (Nat.le_refl _) _⟩
      | exact ⟨ret_bool (by rw [e.out] <;> rfl), ((Below.refl _ _).alloc (Nat.le_refl _) _).trans (hb1.mono (by simp))⟩
set_option maxRecDepth 100000 in
set_option maxHeartbeats 4000000 in
theorem d8hits_king (c : Nat → Int) (a b : Nat) (w : World) (hc : BdOk c) (ha : a < 64) (hb : b < 64) (hk : P.kind (c (1 + a)) = 6) :
    Calls Tryz.prog 183 #[.agg (posC c), .int .i64 (a : Int), .int .i64 (b : Int)] w fun e w' => e = .returned (.bool (D.hits c a b)) ∧ Below w.heap.size w w' := by
  have q1 := tdiv8 a
  have q2 := tdiv8 b
  have q3 := tmod8 a
  have q4 := tmod8 b
  obtain ⟨h0, h1⟩ := hc a ha
  have Hc := Lib.hid hc
  clear hc
  have HW := Lib.hid (heap_alloc_new w (.cells (posC c) 31))
  have hcl := bd_cell HW.out a ha
  have has := abs8_bd ((b : Int) % 8 - (a : Int) % 8) (by omega) (by omega)
  have e : D.hits c a b = D.beside a b := by unfold D.hits; rw [hk]; rfl
  cases hx : (D.abs ((b : Int) / 8 - (a : Int) / 8) == (D.abs ((b : Int) % 8 - (a : Int) % 8)))
  all_goals
    skip
    replace e := Lib.hid e
    go_enter Tryz.func183, Tryz.ntmps183
    go_wp2_with (first
      | (go_at_call 128; refine (d8abs_any _ _ (by omega) (by omega)).mono ?_; rintro e w' ⟨rfl, rfl⟩)
      | (go_at_call 59; refine (d8kind_eq _ _ _ h0 h1 hk).mono ?_; rintro e w' ⟨rfl, rfl⟩)
      | ((with_reducible refine wp_load_pos_g rfl _ rfl c ?_ ?_); · (exact ⟨_, _, _, rfl, HW.out⟩))
      | (go_at_call 60; refine (d8beside_any a b _ ha hb).mono ?_; rintro e w' ⟨rfl, rfl⟩))
    go_ret
    first
      | exact ⟨ret_bool (by rw [e.out] <;> rfl), (Below.refl _ _).alloc (Nat.le_refl _) _⟩
      | exact ⟨ret_bool (by rw [e.out] <;> rfl), ((Below.refl _ _).alloc (Nat.le_refl _) _).trans (hb1.mono (by simp))⟩
set_option maxRecDepth 100000 in
set_option maxHeartbeats 4000000 in
theorem d8hits_none (c : Nat → Int) (a b : Nat) (w : World) (hc : BdOk c) (ha : a < 64) (hb : b < 64) (hk : P.kind (c (1 + a)) = 0) :
    Calls Tryz.prog 183 #[.agg (posC c), .int .i64 (a : Int), .int .i64 (b : Int)] w fun e w' => e = .returned (.bool (D.hits c a b)) ∧ Below w.heap.size w w' := by
  have q1 := tdiv8 a
  have q2 := tdiv8 b
  have q3 := tmod8 a
  have q4 := tmod8 b
  obtain ⟨h0, h1⟩ := hc a ha
  have Hc := Lib.hid hc
  clear hc
  have HW := Lib.hid (heap_alloc_new w (.cells (posC c) 31))
  have hcl := bd_cell HW.out a ha
  have has := abs8_bd ((b : Int) % 8 - (a : Int) % 8) (by omega) (by omega)
  have e : D.hits c a b = false := by unfold D.hits; rw [hk]; rfl
  cases hx : (D.abs ((b : Int) / 8 - (a : Int) / 8) == (D.abs ((b : Int) % 8 - (a : Int) % 8)))
  all_goals
    skip
    replace e := Lib.hid e
    go_enter Tryz.func183, Tryz.ntmps183
    go_wp2_with (first
      | (go_at_call 128; refine (d8abs_any _ _ (by omega) (by omega)).mono ?_; rintro e w' ⟨rfl, rfl⟩)
      | (go_at_call 59; refine (d8kind_eq _ _ _ h0 h1 hk).mono ?_; rintro e w' ⟨rfl, rfl⟩)
      | ((with_reducible refine wp_load_pos_g rfl _ rfl c ?_ ?_); · (exact ⟨_, _, _, rfl, HW.out⟩))
)
    go_ret
    first
      | exact ⟨ret_bool (by rw [e.out] <;> rfl), (Below.refl _ _).alloc (Nat.le_refl _) _⟩
      | exact ⟨ret_bool (by rw [e.out] <;> rfl), ((Below.refl _ _).alloc (Nat.le_refl _) _).trans (hb1.mono (by simp))⟩
end Go.Proofs.YtgkndhpolcnjbaaGreatDoor
namespace Go.Proofs.YtgkndhpolcnjbaaGreatDoor
open Go.RowKit Go.Sort
set_option maxRecDepth 100000 in
set_option maxHeartbeats 4000000 in
theorem d8hits_knight (c : Nat → Int) (a b : Nat) (w : World) (hc : BdOk c) (ha : a < 64) (hb : b < 64) (hk : P.kind (c (1 + a)) = 2) :
    Calls Tryz.prog 183 #[.agg (posC c), .int .i64 (a : Int), .int .i64 (b : Int)] w fun e w' => e = .returned (.bool (D.hits c a b)) ∧ Below w.heap.size w w' := by
  have q1 := tdiv8 a
  have q2 := tdiv8 b
  have q3 := tmod8 a
  have q4 := tmod8 b
  obtain ⟨h0, h1⟩ := hc a ha
  have Hc := Lib.hid hc
  clear hc
  have HW := Lib.hid (heap_alloc_new w (.cells (posC c) 31))
  have hcl := bd_cell HW.out a ha
  have has := abs8_bd ((b : Int) % 8 - (a : Int) % 8) (by omega) (by omega)
  have e : D.hits c a b = (((D.abs ((b : Int) / 8 - (a : Int) / 8) == 1) && ((D.abs ((b : Int) % 8 - (a : Int) % 8)) == 2)) || ((D.abs ((b : Int) / 8 - (a : Int) / 8) == 2) && ((D.abs ((b : Int) % 8 - (a : Int) % 8)) == 1))) := by unfold D.hits; rw [hk]; rfl
  cases g1 : (D.abs ((b : Int) / 8 - (a : Int) / 8) == 1) <;> cases g2 : ((D.abs ((b : Int) % 8 - (a : Int) % 8)) == 2) <;> cases g3 : (D.abs ((b : Int) / 8 - (a : Int) / 8) == 2) <;> cases g4 : ((D.abs ((b : Int) % 8 - (a : Int) % 8)) == 1) <;> cases hx : (D.abs ((b : Int) / 8 - (a : Int) / 8) == (D.abs ((b : Int) % 8 - (a : Int) % 8)))
  all_goals
    first
    | (exfalso; rw [beq_iff_eq] at g1 g3; omega)
    | (exfalso; rw [beq_iff_eq] at g2 g4; omega)
    | (exfalso; rw [beq_iff_eq] at g1 g4; rw [beq_eq_false_iff_ne] at hx; omega)
    | (exfalso; rw [beq_iff_eq] at g3 g2; rw [beq_eq_false_iff_ne] at hx; omega)
    | (exfalso; rw [beq_iff_eq] at g1 g2 hx; omega)
    | (exfalso; rw [beq_iff_eq] at g3 g4 hx; omega)
    | (
      rw [g1, g2, g3, g4] at e
      replace e := Lib.hid e
      go_enter Tryz.func183, Tryz.ntmps183
      go_wp2_with (first
        | (go_at_call 128; refine (d8abs_any _ _ (by omega) (by omega)).mono ?_; rintro e w' ⟨rfl, rfl⟩)
        | (go_at_call 59; refine (d8kind_eq _ _ _ h0 h1 hk).mono ?_; rintro e w' ⟨rfl, rfl⟩)
        | ((with_reducible refine wp_load_pos_g rfl _ rfl c ?_ ?_); · (exact ⟨_, _, _, rfl, HW.out⟩))
  )
      go_ret
      first
        | exact ⟨ret_bool (by rw [e.out] <;> rfl), (Below.refl _ _).alloc (Nat.le_refl _) _⟩
        | exact ⟨ret_bool (by rw [e.out] <;> rfl), ((Below.refl _ _).alloc (Nat.le_refl _) _).trans (hb1.mono (by simp))⟩)
set_option maxRecDepth 100000 in
set_option maxHeartbeats 4000000 in
theorem d8hits_pawn (c : Nat → Int) (a b : Nat) (w : World) (hc : BdOk c) (ha : a < 64) (hb : b < 64) (hk : P.kind (c (1 + a)) = 1) :
    Calls Tryz.prog 183 #[.agg (posC c), .int .i64 (a : Int), .int .i64 (b : Int)] w fun e w' => e = .returned (.bool (D.hits c a b)) ∧ Below w.heap.size w w' := by
  have q1 := tdiv8 a
  have q2 := tdiv8 b
  have q3 := tmod8 a
  have q4 := tmod8 b
  obtain ⟨h0, h1⟩ := hc a ha
  have Hc := Lib.hid hc
  clear hc
  have HW := Lib.hid (heap_alloc_new w (.cells (posC c) 31))
  have hcl := bd_cell HW.out a ha
  have has := abs8_bd ((b : Int) % 8 - (a : Int) % 8) (by omega) (by omega)
  have e : D.hits c a b = (if (D.color (c (1 + a)) == 0) = true then (((b : Int) / 8 - (a : Int) / 8) == 1) && ((D.abs ((b : Int) % 8 - (a : Int) % 8)) == 1) else (((b : Int) / 8 - (a : Int) / 8) == -1) && ((D.abs ((b : Int) % 8 - (a : Int) % 8)) == 1)) := by unfold D.hits; rw [hk]; simp only [beq_iff_eq]; rfl
  cases gc : (D.color (c (1 + a)) == 0) <;> cases g1 : (((b : Int) / 8 - (a : Int) / 8) == 1) <;> cases g3 : (((b : Int) / 8 - (a : Int) / 8) == -1) <;> cases g4 : ((D.abs ((b : Int) % 8 - (a : Int) % 8)) == 1) <;> cases hx : (D.abs ((b : Int) / 8 - (a : Int) / 8) == (D.abs ((b : Int) % 8 - (a : Int) % 8)))
  all_goals
    first
    | (exfalso; rw [beq_iff_eq] at g1 g3; omega)
    | (
      rw [gc, g1, g3, g4] at e
      replace e := Lib.hid e
      go_enter Tryz.func183, Tryz.ntmps183
      go_wp2_with (first
        | (go_at_call 128; refine (d8abs_any _ _ (by omega) (by omega)).mono ?_; rintro e w' ⟨rfl, rfl⟩)
        | (go_at_call 59; refine (d8kind_eq _ _ _ h0 h1 hk).mono ?_; rintro e w' ⟨rfl, rfl⟩)
        | ((with_reducible refine wp_load_pos_g rfl _ rfl c ?_ ?_); · (exact ⟨_, _, _, rfl, HW.out⟩))
        | (go_at_call 232; refine (d8color_any _ _ h0 h1).mono ?_; rintro e w' ⟨rfl, rfl⟩))
      go_ret
      first
        | exact ⟨ret_bool (by rw [e.out] <;> rfl), (Below.refl _ _).alloc (Nat.le_refl _) _⟩
        | exact ⟨ret_bool (by rw [e.out] <;> rfl), ((Below.refl _ _).alloc (Nat.le_refl _) _).trans (hb1.mono (by simp))⟩)
end Go.Proofs.YtgkndhpolcnjbaaGreatDoor
namespace Go.Proofs.YtgkndhpolcnjbaaGreatDoor
open Go.RowKit Go.Sort
theorem d8hits_any (c : Nat → Int) (a b : Nat) (w : World) (hc : BdOk c) (ha : a < 64) (hb : b < 64) :
    Calls Tryz.prog 183 #[.agg (posC c), .int .i64 (a : Int), .int .i64 (b : Int)] w fun e w' => e = .returned (.bool (D.hits c a b)) ∧ Below w.heap.size w w' := by
  obtain ⟨h0, h1⟩ := hc a ha
  have hk := P.kind_bd _ h0 h1
  rcases (show P.kind (c (1 + a)) = 0 ∨ P.kind (c (1 + a)) = 1 ∨ P.kind (c (1 + a)) = 2 ∨ P.kind (c (1 + a)) = 3 ∨ P.kind (c (1 + a)) = 4 ∨ P.kind (c (1 + a)) = 5 ∨ P.kind (c (1 + a)) = 6 by omega) with h | h | h | h | h | h | h
  · exact d8hits_none c a b w hc ha hb h
  · exact d8hits_pawn c a b w hc ha hb h
  · exact d8hits_knight c a b w hc ha hb h
  · exact d8hits_bishop c a b w hc ha hb h
  · exact d8hits_rook c a b w hc ha hb h
  · exact d8hits_queen c a b w hc ha hb h
  · exact d8hits_king c a b w hc ha hb h
theorem d8hits_eq (c : Nat → Int) (a b : Nat) (v : Bool) (w : World) (hc : BdOk c) (ha : a < 64) (hb : b < 64) (h : D.hits c a b = v) :
    Calls Tryz.prog 183 #[.agg (posC c), .int .i64 (a : Int), .int .i64 (b : Int)] w fun e w' => e = .returned (.bool v) ∧ Below w.heap.size w w' := by
  rw [← h]; exact d8hits_any c a b w hc ha hb
namespace D
end D
end Go.Proofs.YtgkndhpolcnjbaaGreatDoor
namespace Go.Proofs.YtgkndhpolcnjbaaGreatDoor
open Go.RowKit Go.Sort
namespace D
def byTo (c : Nat → Int) (s : Nat) (color : Int) : Nat → BitVec 64
  | 0 => 0#64
  | n + 1 => if (P.kind (c (1 + n)) != 0 && (D.color (c (1 + n)) == color && hits c n s)) = true then bOr (byTo c s color n) (B.one n) else byTo c s color n
end D
set_option maxRecDepth 100000 in
set_option maxHeartbeats 1000000 in
theorem d8by_in (c : Nat → Int) (s : Nat) (color : Int) (w : World) (hc : BdOk c) (hs : s < 64) :
    Calls Tryz.prog 231 #[.agg (posC c), .int .i64 (s : Int), .int .u8 color] w fun e w' => e = .returned (.int .u64 (U (D.byTo c s color 64))) ∧ Below w.heap.size w w' := by
  have Hc := Lib.hid hc
  clear hc
  go_enter Tryz.func231, Tryz.ntmps231
  go_wp2
  have HW := Lib.hid (heap_alloc_new w (.cells (posC c) 31))
  have Hb0 := Lib.hid ((Below.refl w.heap.size w).alloc (Nat.le_refl _) (.cells (posC c) 31))
  go_loopw [7, 8] (fun v i wr => ∃ k : Nat, k ≤ 64 ∧ i = .int .i64 (k : Int) ∧ v = .int .u64 (U (D.byTo c s color k)) ∧ wr.heap[w.heap.size]? = some (.cells (posC c) 31 (0, 0)) ∧ Below w.heap.size w wr) (fun _ i _ => 64 - (intOf i).toNat)
  case atStart => exact ⟨0, Nat.zero_le _, rfl, rfl, HW.out, Hb0.out⟩
  case round =>
    obtain ⟨k, hk, rfl, rfl, hp, hbr⟩ := hrel
    have hz := (Array.getElem?_eq_some_iff.1 hp).1
    by_cases hlt : k < 64
    · obtain ⟨x0, x1⟩ := Hc.out k hlt
      have hcl := bd_cell hp k hlt
      have e := Lib.hid (show D.byTo c s color (k + 1) = if (P.kind (c (1 + k)) != 0 && (D.color (c (1 + k)) == color && D.hits c k s)) = true then bOr (D.byTo c s color k) (B.one k) else D.byTo c s color k from rfl)
      have hone : IntKind.u64.wrap (2 ^ k) = U (B.one k) := B.one_val k (by omega) (by omega)
      cases hkz : (P.kind (c (1 + k)) != 0)
      · rw [hkz] at e
        go_wp2_with (first | (go_at_call 59; refine (d8kind_any _ _ x0 x1).mono ?_; rintro e w' ⟨rfl, rfl⟩))
        exact ⟨⟨k + 1, by omega, by go_num, by rw [e.out]; rfl, hp, hbr⟩, by simp [intOf]; omega⟩
      · cases hco : (D.color (c (1 + k)) == color)
        · rw [hkz, hco] at e
          go_wp2_with (first | (go_at_call 59; refine (d8kind_any _ _ x0 x1).mono ?_; rintro e w' ⟨rfl, rfl⟩) | (go_at_call 232; refine (d8color_any _ _ x0 x1).mono ?_; rintro e w' ⟨rfl, rfl⟩))
          exact ⟨⟨k + 1, by omega, by go_num, by rw [e.out]; rfl, hp, hbr⟩, by simp [intOf]; omega⟩
        · cases hi : D.hits c k s
          all_goals
            rw [hkz, hco, hi] at e
            go_wp2_with (first | ((with_reducible refine wp_load_pos_g rfl _ rfl c ?_ ?_); · (exact ⟨_, _, _, rfl, hp⟩)) | (go_at_call 59; refine (d8kind_any _ _ x0 x1).mono ?_; rintro e w' ⟨rfl, rfl⟩) | (go_at_call 232; refine (d8color_any _ _ x0 x1).mono ?_; rintro e w' ⟨rfl, rfl⟩) | (go_at_call 183; refine (d8hits_eq c k s _ _ Hc.out hlt hs hi).mono ?_; rintro e w1 ⟨rfl, hb1⟩))
            exact ⟨⟨k + 1, by omega, by go_num, by rw [e.out]; rfl, (hb1.block _ hz).trans hp, below_next hbr hb1⟩, by simp [intOf]; omega⟩
    · obtain rfl : k = 64 := by omega
      go_wp2
      go_ret
      exact ⟨rfl, hbr⟩
end Go.Proofs.YtgkndhpolcnjbaaGreatDoor
