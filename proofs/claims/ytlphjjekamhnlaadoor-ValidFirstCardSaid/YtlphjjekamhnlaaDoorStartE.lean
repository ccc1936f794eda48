/- The program's package rules: first positions of chess960. -/
import Derived.Test.YtlphjjekamhnlaaDoorStartD
import Derived.Deep.CutRange
namespace Go.Proofs.YtlphjjekamhnlaaDoor
open Go.RowKit Go.Sort
attribute [local go_sem] Oper.semAt_some

namespace V
def empF (l : Nat → Int) : Nat → Nat → Nat → Nat
  | 0, _, _ => 0
  | k + 1, f, n => if l f = 0 then (if n = 0 then f else empF l k (f + 1) (n - 1)) else empF l k (f + 1) n
/-- The empty file of a number, rising. -/
def emp (l : Nat → Int) (n : Nat) : Nat := empF l 8 0 n
theorem empF_lt (l : Nat → Int) : ∀ k f n, f + k ≤ 8 → empF l k f n < 8
  | 0, _, _, _ => by unfold empF; omega
  | k + 1, f, n, h => by
    unfold empF
    split
    · split
      · omega
      · exact empF_lt l k (f + 1) (n - 1) (by omega)
    · exact empF_lt l k (f + 1) n (by omega)
theorem emp_lt (l : Nat → Int) (n : Nat) : emp l n < 8 := empF_lt l 8 0 n (by omega)
def setR (l : Nat → Int) (i : Nat) (v : Int) : Nat → Int := fun f => if f = i then v else l f
theorem row8_set (l : Nat → Int) (i : Nat) (v : Int) (h : i < 8) : (row8 l).setIfInBounds i (.int .u8 v) = row8 (setR l i v) := by
  rcases (show i = 0 ∨ i = 1 ∨ i = 2 ∨ i = 3 ∨ i = 4 ∨ i = 5 ∨ i = 6 ∨ i = 7 by omega) with rfl | rfl | rfl | rfl | rfl | rfl | rfl | rfl <;> rfl
def pa : Nat → Nat
  | 4 => 1 | 5 => 1 | 6 => 1 | 7 => 2 | 8 => 2 | 9 => 3 | _ => 0
def pb : Nat → Nat
  | 0 => 1 | 1 => 2 | 2 => 3 | 3 => 4 | 4 => 2 | 5 => 3 | 6 => 4 | 7 => 3 | 8 => 4 | 9 => 4 | _ => 0
def r2 (q0 q1 : Nat) : Nat → Int := setR (setR (fun _ => 0) (2 * q0 + 1) 3) (2 * q1) 3
def r3 (q0 q1 q2 : Nat) : Nat → Int := setR (r2 q0 q1) (emp (r2 q0 q1) q2) 5
def r4 (q0 q1 q2 q3 : Nat) : Nat → Int := setR (setR (r3 q0 q1 q2) (emp (r3 q0 q1 q2) (pa q3)) 2) (emp (r3 q0 q1 q2) (pb q3)) 2
def put3 (l : Nat → Int) : Nat → Nat → Int
  | 0 => l
  | 1 => setR l (emp l 0) 4
  | 2 => setR (setR l (emp l 0) 4) (emp (setR l (emp l 0) 4) 0) 6
  | _ => setR (setR (setR l (emp l 0) 4) (emp (setR l (emp l 0) 4) 0) 6) (emp (setR (setR l (emp l 0) 4) (emp (setR l (emp l 0) 4) 0) 6) 0) 4
/-- The home rank of a number. -/
def row960 (n : Nat) : Nat → Int := put3 (r4 (n % 4) (n / 4 % 4) (n / 4 / 4 % 6) (n / 4 / 4 / 6)) 3
/-- The first position of a number. -/
def start960 (n : Nat) : Nat → Int := bothTo 1 (row960 n) 8
theorem setR_bd {l : Nat → Int} (h : ∀ n, 0 ≤ l n ∧ l n ≤ 6) (i : Nat) (v : Int) (h0 : 0 ≤ v) (h6 : v ≤ 6) : ∀ n, 0 ≤ setR l i v n ∧ setR l i v n ≤ 6 := fun n => by
  unfold setR
  split
  · exact ⟨h0, h6⟩
  · exact h n
theorem row960_bd (n : Nat) : ∀ f, 0 ≤ row960 n f ∧ row960 n f ≤ 6 := by
  unfold row960 put3 r4 r3 r2
  refine setR_bd (setR_bd (setR_bd (setR_bd (setR_bd (setR_bd (setR_bd (setR_bd (fun _ => ⟨Int.le_refl 0, by decide⟩) _ _ ?_ ?_) _ _ ?_ ?_) _ _ ?_ ?_) _ _ ?_ ?_) _ _ ?_ ?_) _ _ ?_ ?_) _ _ ?_ ?_) _ _ ?_ ?_ <;> decide
end V

set_option maxRecDepth 100000 in
set_option maxHeartbeats 4000000 in
theorem empty_any (l : Nat → Int) (n : Nat) (w : World) (hn : n ≤ 8) :
    Calls Tryd.prog 50 #[.agg (V.row8 l), .int .i64 (n : Int)] w fun e w' => e = .returned (.int .i64 (V.emp l n)) ∧ Below w.heap.size w w' := by
  have hR := RowAt.new w (V.row8 l) 75
  have hb0 : Below w.heap.size w (w.alloc (.cells (V.row8 l) 75)) := (Below.refl _ _).alloc (Nat.le_refl _) _
  go_enter Tryd.func50, Tryd.ntmps50
  go_wp2_with ((with_reducible refine wp_load_row' rfl 75 _ rfl Tryd.underlying75 rfl ?_); refine ⟨w.heap.size, 75, V.row8 l, rfl, hR, (by kernel_rfl), ?_⟩)
  go_loop [1, 8] (fun q i => ∃ f m : Nat, f ≤ 8 ∧ m ≤ 8 ∧ i = .int .i64 (f : Int) ∧ q = .int .i64 (m : Int) ∧ V.emp l n = V.empF l (8 - f) f m) (fun _ i => 8 - (intOf i).toNat)
  case atStart => exact ⟨0, n, by omega, hn, rfl, rfl, rfl⟩
  case round =>
    obtain ⟨f, m, hf, hm, rfl, rfl, he⟩ := hrel
    have HE := Lib.hid he
    clear he
    by_cases hlt : f < 8
    · have hi := V.row8_index l f hlt
      have HS := Lib.hid (show V.empF l (8 - f) f m = if l f = 0 then (if m = 0 then f else V.empF l (8 - (f + 1)) (f + 1) (m - 1)) else V.empF l (8 - (f + 1)) (f + 1) m by
        rw [show 8 - f = (8 - (f + 1)) + 1 by omega]
        rfl)
      generalize l f = x at *
      by_cases hx : x = 0
      · have ex : (x != 0) = false := by simpa using hx
        by_cases hm0 : m = 0
        · have E := Lib.hid (show V.emp l n = f by rw [HE.out, HS.out, if_pos hx, if_pos hm0])
          have em : ((m : Int) == 0) = true := by simpa using hm0
          clear hx hm0 HS
          go_wp2
          go_ret
          exact ⟨by rw [E.out]; rfl, hb0⟩
        · have E := Lib.hid (show V.emp l n = V.empF l (8 - (f + 1)) (f + 1) (m - 1) by rw [HE.out, HS.out, if_pos hx, if_neg hm0])
          have em : ((m : Int) == 0) = false := by simpa using hm0
          have HM := Lib.hid (show 1 ≤ m by omega)
          clear hx hm0 HS
          go_wp2
          go_round
          case rel => exact ⟨f + 1, m - 1, by omega, by omega, by go_num, by have := HM.out; rw [show ((m - 1 : Nat) : Int) = (m : Int) - 1 by omega], E.out⟩
          case measure => simp [intOf]; omega
      · have ex : (x != 0) = true := by simpa using hx
        have E := Lib.hid (show V.emp l n = V.empF l (8 - (f + 1)) (f + 1) m by rw [HE.out, HS.out, if_neg hx])
        clear hx HS
        go_wp2
        go_round
        case rel => exact ⟨f + 1, m, by omega, hm, by go_num, rfl, E.out⟩
        case measure => simp [intOf]; omega
    · obtain rfl : f = 8 := by omega
      have E := Lib.hid (show V.emp l n = 0 by rw [HE.out]; rfl)
      clear HE
      go_wp2
      go_ret
      exact ⟨by rw [E.out]; rfl, hb0⟩

/-- A result's box at g, a rank at b. -/
structure RowIn (w : World) (g b : Nat) (l : Nat → Int) (W : World) : Prop where
  res : W.heap[g]? = some (.cells Tryd.zeroCells31 31 (0, 0))
  q : RowAt W b 75 (V.row8 l)
  lt : g < b
  below : Below g w W
section
variable {w W W' : World} {g b e : Nat} {l l' : Nat → Int}
theorem RowIn.next (h : RowIn w g b l W) (hb : Below W.heap.size W W') : RowIn w g b l W' := by
  have := h.q.lt
  have := h.lt
  exact ⟨(hb.block _ (by omega)).trans h.res, h.q.below hb, h.lt, h.below.trans (hb.mono (by omega))⟩
theorem RowIn.put (h : RowIn w g b l W) (hP : Put b W W') (i : Nat) (v : Int) (hi : i < 8) (hq : RowAt W' b 75 ((V.row8 l).setIfInBounds i (.int .u8 v))) : RowIn w g b (V.setR l i v) W' := by
  have := h.lt
  exact ⟨(hP.block _ (by omega)).trans h.res, by rw [← V.row8_set l i v hi]; exact hq, h.lt, hP.below h.below (by omega)⟩
theorem RowIn.other (h : RowIn w g b l W) (hP : Put e W W') (he : b < e) : RowIn w g b l W' := by
  have := h.lt
  exact ⟨(hP.block _ (by omega)).trans h.res, hP.row h.q (by omega), h.lt, hP.below h.below (by omega)⟩
end
theorem Tryd.size_u8R : (Tryd.prog.info? 5).map (·.size) = some 1 := by kernel_rfl
theorem Tryd.info_r8 (l : Nat → Int) : (Tryd.prog.info? 75).map (·.size) = some (V.row8 l).size := by kernel_rfl
/-- The pairs of files. -/
def V.pairs : Array Value := #[.int .i64 0, .int .i64 1, .int .i64 0, .int .i64 2, .int .i64 0, .int .i64 3, .int .i64 0, .int .i64 4, .int .i64 1, .int .i64 2, .int .i64 1, .int .i64 3, .int .i64 1, .int .i64 4, .int .i64 2, .int .i64 3, .int .i64 2, .int .i64 4, .int .i64 3, .int .i64 4]
theorem V.pairs_a (k : Nat) (h : k < 10) : V.pairs[k * 2]? = some (.int .i64 (V.pa k)) := by
  rcases (show k = 0 ∨ k = 1 ∨ k = 2 ∨ k = 3 ∨ k = 4 ∨ k = 5 ∨ k = 6 ∨ k = 7 ∨ k = 8 ∨ k = 9 by omega) with rfl | rfl | rfl | rfl | rfl | rfl | rfl | rfl | rfl | rfl <;> rfl
theorem V.pairs_b (k : Nat) (h : k < 10) : V.pairs[k * 2 + 1]? = some (.int .i64 (V.pb k)) := by
  rcases (show k = 0 ∨ k = 1 ∨ k = 2 ∨ k = 3 ∨ k = 4 ∨ k = 5 ∨ k = 6 ∨ k = 7 ∨ k = 8 ∨ k = 9 by omega) with rfl | rfl | rfl | rfl | rfl | rfl | rfl | rfl | rfl | rfl <;> rfl
theorem V.pa_le (k : Nat) : V.pa k ≤ 8 := by unfold V.pa; split <;> omega
theorem V.pb_le (k : Nat) : V.pb k ≤ 8 := by unfold V.pb; split <;> omega

theorem Tryd.bp_two (x y : Int) : Tryd.prog.built 78 [(0, .int .i64 x), (1, .int .i64 y)] = some #[.int .i64 x, .int .i64 y] := by kernel_rfl
theorem Tryd.bp_all : Tryd.prog.built 79 [(0, .agg #[.int .i64 0, .int .i64 1]), (1, .agg #[.int .i64 0, .int .i64 2]), (2, .agg #[.int .i64 0, .int .i64 3]), (3, .agg #[.int .i64 0, .int .i64 4]), (4, .agg #[.int .i64 1, .int .i64 2]), (5, .agg #[.int .i64 1, .int .i64 3]), (6, .agg #[.int .i64 1, .int .i64 4]), (7, .agg #[.int .i64 2, .int .i64 3]), (8, .agg #[.int .i64 2, .int .i64 4]), (9, .agg #[.int .i64 3, .int .i64 4])] = some V.pairs := by kernel_rfl
set_option maxRecDepth 100000 in
set_option maxHeartbeats 4000000 in
theorem start960_any (n : Nat) (w : World) (hn : n < 960) : Calls Tryd.prog 24 #[.int .i64 (n : Int)] w fun e w' => e = .returned (.tuple #[.agg (posC (V.start960 n)), .bool true]) ∧ Below w.heap.size w w' := by
  have hr0 : RowIn w w.heap.size (w.heap.size + 1) (fun _ => 0) ((w.alloc (.cells Tryd.zeroCells31 31)).alloc (.cells (V.row8 (fun _ => 0)) 75)) :=
    ⟨(Below.heap_alloc _ _ _ (by simp)).trans (heap_alloc_new _ _), by have := RowAt.new (w.alloc (.cells Tryd.zeroCells31 31)) (V.row8 (fun _ => 0)) 75; rwa [World.size_alloc] at this, by omega, ((Below.refl _ _).alloc (Nat.le_refl _) _).alloc (by simp) _⟩
  have HR := Lib.hid hr0
  clear hr0
  have hZ8 : (#[.int .u8 0, .int .u8 0, .int .u8 0, .int .u8 0, .int .u8 0, .int .u8 0, .int .u8 0, .int .u8 0] : Array Value) = V.row8 (fun _ => 0) := rfl
  obtain ⟨q0, hq0⟩ : ∃ q : Nat, n % 4 = q := ⟨_, rfl⟩
  obtain ⟨n1, hn1⟩ : ∃ q : Nat, n / 4 = q := ⟨_, rfl⟩
  obtain ⟨q1, hq1⟩ : ∃ q : Nat, n1 % 4 = q := ⟨_, rfl⟩
  obtain ⟨n2, hn2⟩ : ∃ q : Nat, n1 / 4 = q := ⟨_, rfl⟩
  obtain ⟨q2, hq2⟩ : ∃ q : Nat, n2 % 6 = q := ⟨_, rfl⟩
  obtain ⟨q3, hq3⟩ : ∃ q : Nat, n2 / 6 = q := ⟨_, rfl⟩
  have HE := Lib.hid (show V.row960 n = V.put3 (V.r4 q0 q1 q2 q3) 3 by rw [← hq3, ← hq2, ← hn2, ← hq1, ← hn1, ← hq0]; rfl)
  have d0 : decide ((n : Int) < 0) = false := decide_eq_false (by omega)
  have d1 : decide ((960 : Int) ≤ (n : Int)) = false := decide_eq_false (by omega)
  have m0 : (n : Int).tmod 4 = (q0 : Int) := by rw [Int.tmod_eq_emod_of_nonneg (by omega)]; omega
  have m1 : (n : Int).tdiv 4 = (n1 : Int) := by rw [Int.tdiv_eq_ediv_of_nonneg (by omega)]; omega
  have m2 : (n1 : Int).tmod 4 = (q1 : Int) := by rw [Int.tmod_eq_emod_of_nonneg (by omega)]; omega
  have m3 : (n1 : Int).tdiv 4 = (n2 : Int) := by rw [Int.tdiv_eq_ediv_of_nonneg (by omega)]; omega
  have m4 : (n2 : Int).tmod 6 = (q2 : Int) := by rw [Int.tmod_eq_emod_of_nonneg (by omega)]; omega
  have m5 : (n2 : Int).tdiv 6 = (q3 : Int) := by rw [Int.tdiv_eq_ediv_of_nonneg (by omega)]; omega
  have k0 : (n : Int) % 4 = (q0 : Int) := by omega
  have k1 : (n : Int) / 4 = (n1 : Int) := by omega
  have k2 : (n1 : Int) % 4 = (q1 : Int) := by omega
  have k3 : (n1 : Int) / 4 = (n2 : Int) := by omega
  have k4 : (n2 : Int) % 6 = (q2 : Int) := by omega
  have k5 : (n2 : Int) / 6 = (q3 : Int) := by omega
  obtain ⟨t0, ht0⟩ : ∃ q : Nat, 2 * q0 = q := ⟨_, rfl⟩
  obtain ⟨a0, ha0⟩ : ∃ q : Nat, t0 + 1 = q := ⟨_, rfl⟩
  obtain ⟨a1, ha1⟩ : ∃ q : Nat, 2 * q1 = q := ⟨_, rfl⟩
  have e0 : IntKind.i64.wrap (2 * (q0 : Int)) = (t0 : Int) := by rw [IntKind.wrap_i64]; omega
  have e1 : IntKind.i64.wrap ((t0 : Int) + 1) = (a0 : Int) := by rw [IntKind.wrap_i64]; omega
  have e2 : IntKind.i64.wrap (2 * (q1 : Int)) = (a1 : Int) := by rw [IntKind.wrap_i64]; omega
  have b0 : a0 < 8 := by omega
  have b1 : a1 < 8 := by omega
  have b3 : q3 < 10 := by omega
  have HQ2 := Lib.hid (show q2 ≤ 8 by omega)
  have E2 := (show V.r2 q0 q1 = V.setR (V.setR (fun _ => 0) a0 3) a1 3 by rw [← ha1, ← ha0, ← ht0]; rfl)
  clear hq0 hn1 hq1 hn2 hq2 hq3 ht0 ha0 ha1 hn
  obtain ⟨b, hb⟩ : ∃ b, w.heap.size + 1 = b := ⟨_, rfl⟩
  rw [hb] at HR
  have hs0 : (w.alloc (.cells Tryd.zeroCells31 31)).heap.size = b := by rw [← hb]; simp
  have hs1 : ((w.alloc (.cells Tryd.zeroCells31 31)).alloc (.cells (V.row8 (fun _ => 0)) 75)).heap.size = b + 1 := by rw [← hb]; simp
  go_enter Tryd.func24, Tryd.ntmps24
  go_upto_region 8 with (first
    | ((with_reducible refine wp_store_at rfl 5 _ _ rfl ?_); refine ⟨b, a0, _, _, _, rfl, rfl, rfl, HR.out.q, b0, Tryd.size_u8R, ?_⟩; intro V1 hP hq; have H1 := Lib.hid (HR.out.put hP a0 3 b0 hq); clear hP hq)
    | ((with_reducible refine wp_store_at rfl 5 _ _ rfl ?_); refine ⟨b, a1, _, _, _, rfl, rfl, rfl, H1.out.q, b1, Tryd.size_u8R, ?_⟩; intro V2 hP hq; have H2 := Lib.hid (H1.out.put hP a1 3 b1 hq); clear hP hq))
  rw [← E2] at H2
  clear E2 H1 HR hs0 hs1 d0 d1 e0 e1 e2 m0 m1 m2 m3 k0 k1 k2 k3 b0 b1 hb
  obtain ⟨r, hr⟩ : ∃ r, V.r2 q0 q1 = r := ⟨_, rfl⟩
  obtain ⟨x2, hx2⟩ : ∃ x, V.emp r q2 = x := ⟨_, rfl⟩
  have bx2 : x2 < 8 := by rw [← hx2]; exact V.emp_lt r q2
  rw [hr] at H2
  have HC2 : Hid (∀ w, Calls Tryd.prog 50 #[.agg (V.row8 r), .int .i64 (q2 : Int)] w fun e w' => e = .returned (.int .i64 (x2 : Int)) ∧ Below w.heap.size w w') := Lib.hid (fun w => by rw [← hx2]; exact empty_any r q2 w HQ2.out)
  have E3 := (show V.r3 q0 q1 q2 = V.setR r x2 5 by rw [← hx2, ← hr]; rfl)
  clear hx2 hr HQ2
  go_upto_region 10 with (first
    | ((with_reducible refine wp_load_row' rfl 75 _ rfl Tryd.underlying75 rfl ?_); refine ⟨_, _, _, rfl, H2.out.q, Tryd.info_r8 _, ?_⟩)
    | (go_at_call 50; (with_reducible refine (HC2.out _).mono ?_); rintro e w3 ⟨rfl, hb3⟩; have H3 := Lib.hid (H2.out.next hb3); clear hb3)
    | ((with_reducible refine wp_store_at rfl 5 _ _ rfl ?_); refine ⟨b, x2, _, _, _, rfl, rfl, rfl, H3.out.q, bx2, Tryd.size_u8R, ?_⟩; intro V4 hP hq; have H4 := Lib.hid (H3.out.put hP x2 5 bx2 hq); clear hP hq)
    | ((with_reducible refine wpl_build rfl 78 _ rfl ?_); refine ⟨_, _, rfl, Tryd.bp_two _ _, ?_⟩)
    | ((with_reducible refine wpl_build rfl 79 _ rfl ?_); refine ⟨_, _, rfl, Tryd.bp_all, ?_⟩)
    | ((with_reducible refine wp_store_row' rfl 79 _ _ rfl ?_); refine ⟨V4.heap.size, 79, V.pairs, rfl, rfl, ⟨_, heap_alloc_new _ _, (by kernel_rfl)⟩, (by kernel_rfl), (by kernel_rfl), ?_⟩; intro V5 hP hq; have H5 := Lib.hid ((H4.out.next ((Below.refl _ _).alloc (Nat.le_refl _) _)).other hP H4.out.q.lt); have HP5 := Lib.hid hq; clear hP hq))
  refine wp_region_lit ?_
  refine wpl_build rfl 78 _ rfl ⟨_, _, rfl, Tryd.bp_two _ _, ?_⟩
  refine wpl_build rfl 78 _ rfl ⟨_, _, rfl, Tryd.bp_two _ _, ?_⟩
  refine wpl_build rfl 78 _ rfl ⟨_, _, rfl, Tryd.bp_two _ _, ?_⟩
  refine wpl_build rfl 78 _ rfl ⟨_, _, rfl, Tryd.bp_two _ _, ?_⟩
  refine wpl_build rfl 78 _ rfl ⟨_, _, rfl, Tryd.bp_two _ _, ?_⟩
  refine wpl_build rfl 78 _ rfl ⟨_, _, rfl, Tryd.bp_two _ _, ?_⟩
  refine wpl_build rfl 78 _ rfl ⟨_, _, rfl, Tryd.bp_two _ _, ?_⟩
  refine wpl_build rfl 78 _ rfl ⟨_, _, rfl, Tryd.bp_two _ _, ?_⟩
  refine wpl_build rfl 78 _ rfl ⟨_, _, rfl, Tryd.bp_two _ _, ?_⟩
  refine wpl_build rfl 78 _ rfl ⟨_, _, rfl, Tryd.bp_two _ _, ?_⟩
  simp only [Act.put, List.setIfInBounds_toArray, List.set_cons_succ, List.set_cons_zero]
  refine wpl_build rfl 79 _ rfl ⟨_, _, rfl, Tryd.bp_all, ?_⟩
  simp only [Act.put, List.setIfInBounds_toArray, List.set_cons_succ, List.set_cons_zero]
  go_upto_region 11 with ((with_reducible refine wp_store_row' rfl 79 _ _ rfl ?_); refine ⟨V4.heap.size, 79, V.pairs, rfl, rfl, ⟨_, heap_alloc_new _ _, (by kernel_rfl)⟩, (by kernel_rfl), (by kernel_rfl), ?_⟩; intro V5 hP hq; have H5 := Lib.hid ((H4.out.next ((Below.refl _ _).alloc (Nat.le_refl _) _)).other hP H4.out.q.lt); have HP5 := Lib.hid hq; clear hP hq)
  rw [← E3] at H5
  obtain ⟨s, hs⟩ : ∃ s, V4.heap.size = s := ⟨_, rfl⟩
  rw [hs] at HP5 ⊢
  clear E3 H4 H3 H2 hs HC2 bx2 m4 m5 k4 k5
  obtain ⟨l, hl⟩ : ∃ l, V.r3 q0 q1 q2 = l := ⟨_, rfl⟩
  rw [hl] at H5
  have hcA := HP5.out.cell (q3 * 2)
  have hcB := HP5.out.cell (q3 * 2 + 1)
  rw [V.pairs_a q3 b3] at hcA
  rw [V.pairs_b q3 b3] at hcB
  have HA := Lib.hid (V.pa_le q3)
  have HB := Lib.hid (V.pb_le q3)
  obtain ⟨xa, hxa⟩ : ∃ x, V.emp l (V.pa q3) = x := ⟨_, rfl⟩
  obtain ⟨xb, hxb⟩ : ∃ x, V.emp l (V.pb q3) = x := ⟨_, rfl⟩
  have bxa : xa < 8 := by rw [← hxa]; exact V.emp_lt l _
  have bxb : xb < 8 := by rw [← hxb]; exact V.emp_lt l _
  have E4 := (show V.r4 q0 q1 q2 q3 = V.setR (V.setR l xa 2) xb 2 by rw [← hxa, ← hxb, ← hl]; rfl)
  obtain ⟨p, hp⟩ : ∃ p, V.pa q3 = p := ⟨_, rfl⟩
  obtain ⟨q, hq⟩ : ∃ q, V.pb q3 = q := ⟨_, rfl⟩
  rw [hp] at hcA HA hxa
  rw [hq] at hcB HB hxb
  have HCA : Hid (∀ w, Calls Tryd.prog 50 #[.agg (V.row8 l), .int .i64 (p : Int)] w fun e w' => e = .returned (.int .i64 (xa : Int)) ∧ Below w.heap.size w w') := Lib.hid (fun w => by rw [← hxa]; exact empty_any l p w HA.out)
  have HCB : Hid (∀ w, Calls Tryd.prog 50 #[.agg (V.row8 l), .int .i64 (q : Int)] w fun e w' => e = .returned (.int .i64 (xb : Int)) ∧ Below w.heap.size w w') := Lib.hid (fun w => by rw [← hxb]; exact empty_any l q w HB.out)
  clear hxa hxb hl hp hq HA HB
  have lb := HP5.out.lt
  simp only [Act.put]
  refine region_below (by kernel_rfl) (by kernel_rfl) ?_
  try simp only [Act.put]
  repeat (first
    | (go_big_quiet_want; refine quiet_load_rowQ 75 _ rfl Tryd.underlying75 rfl ⟨_, _, _, rfl, H5.out.q, Tryd.info_r8 _, ?_⟩; simp only [Act.put, List.setIfInBounds_toArray, List.set_cons_succ, List.set_cons_zero]; go_big_quiet_on)
    | go_big_quiet_step (first
      | (go_at_call 50; (with_reducible exact quiet_below (HCA.out _)))
      | (go_at_call 50; (with_reducible exact quiet_below (HCB.out _)))))
  refine wpQuiet_nil ?_
  intro w6 hb6
  have H6 := Lib.hid (H5.out.next hb6)
  clear hb6
  clear H5 HP5 hcA hcB HCA HCB lb
  go_upto_region 13 with (first
    | ((with_reducible refine wp_store_at rfl 5 _ _ rfl ?_); refine ⟨b, xa, _, _, _, rfl, rfl, rfl, H6.out.q, bxa, Tryd.size_u8R, ?_⟩; intro V7 hP hq; have H7 := Lib.hid (H6.out.put hP xa 2 bxa hq); clear hP hq)
    | ((with_reducible refine wp_store_at rfl 5 _ _ rfl ?_); refine ⟨b, xb, _, _, _, rfl, rfl, rfl, H7.out.q, bxb, Tryd.size_u8R, ?_⟩; intro V8 hP hq; have H8 := Lib.hid (H7.out.put hP xb 2 bxb hq); clear hP hq))
  rw [← E4] at H8
  clear E4 H6 H7 bxa bxb
  obtain ⟨L, hL⟩ : ∃ L, V.r4 q0 q1 q2 q3 = L := ⟨_, rfl⟩
  rw [hL] at H8 HE
  clear hL
  have HS := Lib.hid (RowAt.new V8 #[.int .u8 4, .int .u8 6, .int .u8 4] 5)
  have HM0 := Lib.hid (show RowIn w w.heap.size b (V.put3 L 0) (V8.alloc (.cells #[.int .u8 4, .int .u8 6, .int .u8 4] 5)) from H8.out.next ((Below.refl _ _).alloc (Nat.le_refl _) _))
  have hbs := H8.out.q.lt
  go_wp2
  obtain ⟨s2, hs2⟩ : ∃ s, V8.heap.size = s := ⟨_, rfl⟩
  obtain ⟨W9, hW9⟩ : ∃ W, V8.alloc (.cells #[.int .u8 4, .int .u8 6, .int .u8 4] 5) = W := ⟨_, rfl⟩
  rw [hW9] at HS HM0
  rw [hs2] at HS hbs
  try rw [hW9]
  try rw [hs2]
  clear hW9 hs2 H8
  go_loopw [66] (fun i wr => ∃ k : Nat, k ≤ 3 ∧ i = .int .i64 (k : Int) ∧ RowIn w w.heap.size b (V.put3 L k) wr ∧ RowAt wr s2 5 #[.int .u8 4, .int .u8 6, .int .u8 4]) (fun i _ => 3 - (intOf i).toNat)
  case atStart => exact ⟨0, Nat.zero_le _, rfl, HM0.out, HS.out⟩
  case round =>
    obtain ⟨k, hk, rfl, hM, hR⟩ := hrel
    have HM := Lib.hid hM
    have HRr := Lib.hid hR
    clear hM HM0 HS
    rcases (show k = 0 ∨ k = 1 ∨ k = 2 ∨ k = 3 by omega) with rfl | rfl | rfl | rfl
    · have h1 := hR.cell 0
      simp only [List.getElem?_toArray, List.getElem?_cons_zero] at h1
      clear hR hk
      obtain ⟨M, hMe⟩ : ∃ M, V.put3 L 0 = M := ⟨_, rfl⟩
      rw [hMe] at HM
      obtain ⟨x, hx⟩ : ∃ x, V.emp M 0 = x := ⟨_, rfl⟩
      have bx : x < 8 := by rw [← hx]; exact V.emp_lt M 0
      have EN := (show V.put3 L (0 + 1) = V.setR M x 4 by rw [← hx, ← hMe]; rfl)
      have HC : Hid (∀ w, Calls Tryd.prog 50 #[.agg (V.row8 M), .int .i64 0] w fun e w' => e = .returned (.int .i64 (x : Int)) ∧ Below w.heap.size w w') := Lib.hid (fun w => by rw [← hx]; exact empty_any M 0 w (Nat.zero_le _))
      clear hx hMe
      go_wp2_with (first
        | ((with_reducible refine wp_load_row' rfl 75 _ rfl Tryd.underlying75 rfl ?_); refine ⟨_, _, _, rfl, HM.out.q, Tryd.info_r8 _, ?_⟩)
        | (go_at_call 50; (with_reducible refine (HC.out _).mono ?_); rintro e wa ⟨rfl, hba⟩; have HMa := Lib.hid (HM.out.next hba); have HRa := Lib.hid (HRr.out.below hba); clear hba)
        | ((with_reducible refine wp_store_at rfl 5 _ _ rfl ?_); refine ⟨b, x, _, _, _, rfl, rfl, rfl, HMa.out.q, bx, Tryd.size_u8R, ?_⟩; intro Va hP hq; have HMb := Lib.hid (HMa.out.put hP x 4 bx hq); have HRb := Lib.hid (hP.row HRa.out (by omega)); clear hP hq))
      rw [← EN] at HMb
      go_roundw
      case rel => exact ⟨1, by omega, rfl, HMb.out, HRb.out⟩
      case measure => simp [intOf]
    · have h1 := hR.cell 1
      simp only [List.getElem?_toArray, List.getElem?_cons_zero, List.getElem?_cons_succ] at h1
      clear hR hk
      obtain ⟨M, hMe⟩ : ∃ M, V.put3 L 1 = M := ⟨_, rfl⟩
      rw [hMe] at HM
      obtain ⟨x, hx⟩ : ∃ x, V.emp M 0 = x := ⟨_, rfl⟩
      have bx : x < 8 := by rw [← hx]; exact V.emp_lt M 0
      have EN := (show V.put3 L (1 + 1) = V.setR M x 6 by rw [← hx, ← hMe]; rfl)
      have HC : Hid (∀ w, Calls Tryd.prog 50 #[.agg (V.row8 M), .int .i64 0] w fun e w' => e = .returned (.int .i64 (x : Int)) ∧ Below w.heap.size w w') := Lib.hid (fun w => by rw [← hx]; exact empty_any M 0 w (Nat.zero_le _))
      clear hx hMe
      go_wp2_with (first
        | ((with_reducible refine wp_load_row' rfl 75 _ rfl Tryd.underlying75 rfl ?_); refine ⟨_, _, _, rfl, HM.out.q, Tryd.info_r8 _, ?_⟩)
        | (go_at_call 50; (with_reducible refine (HC.out _).mono ?_); rintro e wa ⟨rfl, hba⟩; have HMa := Lib.hid (HM.out.next hba); have HRa := Lib.hid (HRr.out.below hba); clear hba)
        | ((with_reducible refine wp_store_at rfl 5 _ _ rfl ?_); refine ⟨b, x, _, _, _, rfl, rfl, rfl, HMa.out.q, bx, Tryd.size_u8R, ?_⟩; intro Va hP hq; have HMb := Lib.hid (HMa.out.put hP x 6 bx hq); have HRb := Lib.hid (hP.row HRa.out (by omega)); clear hP hq))
      rw [← EN] at HMb
      go_roundw
      case rel => exact ⟨2, by omega, rfl, HMb.out, HRb.out⟩
      case measure => simp [intOf]
    · have h1 := hR.cell 2
      simp only [List.getElem?_toArray, List.getElem?_cons_zero, List.getElem?_cons_succ] at h1
      clear hR hk
      obtain ⟨M, hMe⟩ : ∃ M, V.put3 L 2 = M := ⟨_, rfl⟩
      rw [hMe] at HM
      obtain ⟨x, hx⟩ : ∃ x, V.emp M 0 = x := ⟨_, rfl⟩
      have bx : x < 8 := by rw [← hx]; exact V.emp_lt M 0
      have EN := (show V.put3 L (2 + 1) = V.setR M x 4 by rw [← hx, ← hMe]; rfl)
      have HC : Hid (∀ w, Calls Tryd.prog 50 #[.agg (V.row8 M), .int .i64 0] w fun e w' => e = .returned (.int .i64 (x : Int)) ∧ Below w.heap.size w w') := Lib.hid (fun w => by rw [← hx]; exact empty_any M 0 w (Nat.zero_le _))
      clear hx hMe
      go_wp2_with (first
        | ((with_reducible refine wp_load_row' rfl 75 _ rfl Tryd.underlying75 rfl ?_); refine ⟨_, _, _, rfl, HM.out.q, Tryd.info_r8 _, ?_⟩)
        | (go_at_call 50; (with_reducible refine (HC.out _).mono ?_); rintro e wa ⟨rfl, hba⟩; have HMa := Lib.hid (HM.out.next hba); have HRa := Lib.hid (HRr.out.below hba); clear hba)
        | ((with_reducible refine wp_store_at rfl 5 _ _ rfl ?_); refine ⟨b, x, _, _, _, rfl, rfl, rfl, HMa.out.q, bx, Tryd.size_u8R, ?_⟩; intro Va hP hq; have HMb := Lib.hid (HMa.out.put hP x 4 bx hq); have HRb := Lib.hid (hP.row HRa.out (by omega)); clear hP hq))
      rw [← EN] at HMb
      go_roundw
      case rel => exact ⟨3, by omega, rfl, HMb.out, HRb.out⟩
      case measure => simp [intOf]
    · clear hR hk
      rw [← HE.out] at HM
      have HBo : Hid (∀ w, Calls Tryd.prog 48 #[.int .u8 1, .agg (V.row8 (V.row960 n))] w fun e w' => e = .returned (.agg (posC (V.start960 n))) ∧ Below w.heap.size w w') := Lib.hid (fun w => both_any 1 (V.row960 n) w (fun f _ => V.row960_bd n f))
      clear HE
      go_wp2_with (first
        | ((with_reducible refine wp_load_row' rfl 75 _ rfl Tryd.underlying75 rfl ?_); refine ⟨_, _, _, rfl, HM.out.q, Tryd.info_r8 _, ?_⟩)
        | (go_at_call 48; (with_reducible refine (HBo.out _).mono ?_); rintro e wa ⟨rfl, hba⟩; have HMa := Lib.hid (HM.out.next hba); clear hba)
        | ((with_reducible refine wp_store_box rfl _ _ rfl ?_); refine ⟨w.heap.size, _, rfl, rfl, ⟨_, HMa.out.res, (by kernel_rfl)⟩, ?_⟩; intro W9 hP9 hq9))
      exact bodyPost_ret (v := .tuple #[.agg (posC (V.start960 n)), .bool true]) (results_row_tmp Tryd.results24 _ _ w.heap.size 31 _ (0, 0) _ rfl hq9.heap Tryd.underlying31 rfl (posC_info _)) rfl ⟨rfl, hP9.below HMa.out.below (Nat.le_refl _)⟩
end Go.Proofs.YtlphjjekamhnlaaDoor
