/- Several texts in one: CastS, CastT. -/

import Derived.Test.YtgkndhpolcnjbaaGreatDoorQr
namespace Go.Proofs.YtgkndhpolcnjbaaGreatDoor
open Go.RowKit Go.Sort
attribute [local go_sem] Oper.semAt_some
namespace T
def inHome (t : Nat) (f : Int) : Bool := decide (56 * (t : Int) ≤ f) && decide (f ≤ 56 * (t : Int) + 7)
/-- The side of a move of who is to move. -/
def side (c : Nat → Int) (f g : Int) (ca : Bool) : Int :=
  if c 78 ≤ 1 ∧ ca = true ∧ f ≠ g ∧ inHome (c 78).toNat f = true ∧ inHome (c 78).toNat g = true then (if f < g then 0 else 1) else -1
theorem ret_int {k : IntKind} {a b : Int} (h : b = a) : Ending.returned (.int k a) = Ending.returned (.int k b) := by rw [h]
end T
set_option maxRecDepth 100000 in
set_option maxHeartbeats 1000000 in
theorem cside_in (c : Nat → Int) (f g a b : Int) (t : Nat) (w : World) (ht : c 78 = (t : Int)) (ht2 : t < 2) (hf : -128 ≤ f ∧ f ≤ 127) (hg : -128 ≤ g ∧ g ≤ 127) (hfg : f ≠ g) :
    Calls Tryz.prog 72 #[.agg (posC c), .agg #[.int .i8 f, .int .i8 g, .int .u8 a, .int .u8 b, .bool true]] w fun e w' => e = .returned (.int .i64 (T.side c f g true)) ∧ Below w.heap.size w w' := by
  have hb0 : Below w.heap.size w ((w.alloc (.cells (posC c) 31)).alloc (.cells #[.int .i8 f, .int .i8 g, .int .u8 a, .int .u8 b, .bool true] 40)) := ((Below.refl _ _).alloc (Nat.le_refl _) _).alloc (by simp) _
  have hp := (PosAt.new w c).alloc (.cells #[.int .i8 f, .int .i8 g, .int .u8 a, .int .u8 b, .bool true] 40)
  have h78 := hp.cell (i := 78) (by decide)
  rw [show pk 78 = .u8 from rfl, ht] at h78
  have e1 : (f == g) = false := by simpa using hfg
  have hside : T.side c f g true = if T.inHome t f = true ∧ T.inHome t g = true then (if f < g then 0 else 1) else -1 := by
    unfold T.side
    rw [ht, Int.toNat_natCast]
    by_cases h : T.inHome t f = true ∧ T.inHome t g = true
    · rw [if_pos h, if_pos ⟨by omega, rfl, hfg, h.1, h.2⟩]
    · rw [if_neg h, if_neg (fun k => h ⟨k.2.2.2.1, k.2.2.2.2⟩)]
  have Hs := Lib.hid hside
  have hin : ∀ x : Int, T.inHome t x = !(decide (x - 56 * t < 0) || decide (7 < x - 56 * t)) := fun x => by
    unfold T.inHome
    rw [Bool.eq_iff_iff]
    simp only [Bool.and_eq_true, Bool.not_eq_true', Bool.or_eq_false_iff, decide_eq_true_eq, decide_eq_false_iff_not]
    omega
  have Hin := Lib.hid hin
  have hm := RowAt.new (w.alloc (.cells (posC c) 31)) #[.int .i8 f, .int .i8 g, .int .u8 a, .int .u8 b, .bool true] 40
  have hm0 := (hm.alloc (.cells #[.int .i8 f, .int .i8 g] 26)).cell 0
  have hm1 := (hm.alloc (.cells #[.int .i8 f, .int .i8 g] 26)).cell 1
  have hl := RowAt.new ((w.alloc (.cells (posC c) 31)).alloc (.cells #[.int .i8 f, .int .i8 g, .int .u8 a, .int .u8 b, .bool true] 40)) #[.int .i8 f, .int .i8 g] 26
  have hl0 := hl.cell 0
  have hl1 := hl.cell 1
  have hp3 := (hp.alloc (.cells #[.int .i8 f, .int .i8 g] 26)).cell (i := 78) (by decide)
  rw [show pk 78 = .u8 from rfl, ht] at hp3
  have hb3 := hb0.alloc (by simp; omega) (.cells #[.int .i8 f, .int .i8 g] 26)
  simp only [World.size_alloc] at hm0 hm1 hl0 hl1
  have H0 := Lib.hid (And.intro hm0 (And.intro hm1 (And.intro hl0 (And.intro hl1 (And.intro hp3 hb3)))))
  obtain ⟨f0, f1⟩ := hf
  obtain ⟨g0, g1⟩ := hg
  clear hm0 hm1 hl0 hl1 hp3 hb3 hin hside hm hl hfg
  have hwf : wrap64 f = f := IntWalk.wrap64_in _ ⟨by omega, by omega⟩
  have hwg : wrap64 g = g := IntWalk.wrap64_in _ ⟨by omega, by omega⟩
  have hwnf : wrap64 (f - 56) = f - 56 := IntWalk.wrap64_in _ ⟨by omega, by omega⟩
  have hwng : wrap64 (g - 56) = g - 56 := IntWalk.wrap64_in _ ⟨by omega, by omega⟩
  rcases (show t = 0 ∨ t = 1 by omega) with rfl | rfl
  · go_enter Tryz.func72, Tryz.ntmps72
    go_wp2
    clear hb0 hp h78
    go_loopw [29] (fun i wr => ∃ n : Nat, n ≤ 2 ∧ i = .int .i64 (n : Int) ∧ (1 ≤ n → T.inHome 0 f = true) ∧ (2 ≤ n → T.inHome 0 g = true) ∧ wr.cell? ⟨w.heap.size + 1, 0, none⟩ = some (.int .i8 f) ∧ wr.cell? ⟨w.heap.size + 1, 1, none⟩ = some (.int .i8 g) ∧ wr.cell? ⟨w.heap.size + 1 + 1, 0, none⟩ = some (.int .i8 f) ∧ wr.cell? ⟨w.heap.size + 1 + 1, 1, none⟩ = some (.int .i8 g) ∧ wr.cell? ⟨w.heap.size, 78, none⟩ = some (.int .u8 0) ∧ Below w.heap.size w wr) (fun i _ => 2 - (intOf i).toNat)
    case atStart => exact ⟨0, by omega, rfl, by omega, by omega, H0.out.1, H0.out.2.1, H0.out.2.2.1, H0.out.2.2.2.1, H0.out.2.2.2.2.1, H0.out.2.2.2.2.2⟩
    case round =>
      obtain ⟨n, hn, rfl, i1, i2, m0, m1, l0, l1, p78, hbr⟩ := hrel
      have I1 := Lib.hid i1
      have I2 := Lib.hid i2
      clear i1 i2
      rcases (show n = 0 ∨ n = 1 ∨ n = 2 by omega) with rfl | rfl | rfl
      · cases b1 : decide (f < 0) <;> cases b2 : decide (7 < f)
        all_goals
          go_wp2_with (first
            | (go_at_call 74; refine (home_any 0 _ (by decide)).mono ?_; rintro e u ⟨rfl, rfl⟩))
        · exact ⟨⟨1, by omega, by go_num, fun _ => by rw [Hin.out f]; simp only [Bool.not_eq_true', Bool.or_eq_false_iff, decide_eq_false_iff_not] at b1 b2 ⊢; omega, by omega, m0, m1, l0, l1, p78, hbr⟩, by simp [intOf]⟩
        all_goals
          go_ret
          exact ⟨T.ret_int (by rw [Hs.out, if_neg]; rintro ⟨h, _⟩; rw [Hin.out f] at h; simp only [Bool.not_eq_true', Bool.or_eq_false_iff, decide_eq_false_iff_not, decide_eq_true_eq] at b1 b2 h; omega), hbr⟩
      · cases b1 : decide (g < 0) <;> cases b2 : decide (7 < g)
        all_goals
          go_wp2_with (first
            | (go_at_call 74; refine (home_any 0 _ (by decide)).mono ?_; rintro e u ⟨rfl, rfl⟩))
        · exact ⟨⟨2, by omega, by go_num, fun _ => I1.out (by omega), fun _ => by rw [Hin.out g]; simp only [Bool.not_eq_true', Bool.or_eq_false_iff, decide_eq_false_iff_not] at b1 b2 ⊢; omega, m0, m1, l0, l1, p78, hbr⟩, by simp [intOf]⟩
        all_goals
          go_ret
          exact ⟨T.ret_int (by rw [Hs.out, if_neg]; rintro ⟨_, h⟩; rw [Hin.out g] at h; simp only [Bool.not_eq_true', Bool.or_eq_false_iff, decide_eq_false_iff_not, decide_eq_true_eq] at b1 b2 h; omega), hbr⟩
      · have Hb := Lib.hid (show T.inHome 0 f = true ∧ T.inHome 0 g = true from ⟨I1.out (by omega), I2.out (by omega)⟩)
        cases hl : decide (f < g)
        · go_wp2
          go_ret
          exact ⟨T.ret_int (by rw [Hs.out, if_pos Hb.out, if_neg (of_decide_eq_false hl)]), hbr⟩
        · go_wp2
          go_ret
          exact ⟨T.ret_int (by rw [Hs.out, if_pos Hb.out, if_pos (of_decide_eq_true hl)]), hbr⟩
  · go_enter Tryz.func72, Tryz.ntmps72
    go_wp2
    clear hb0 hp h78
    go_loopw [29] (fun i wr => ∃ n : Nat, n ≤ 2 ∧ i = .int .i64 (n : Int) ∧ (1 ≤ n → T.inHome 1 f = true) ∧ (2 ≤ n → T.inHome 1 g = true) ∧ wr.cell? ⟨w.heap.size + 1, 0, none⟩ = some (.int .i8 f) ∧ wr.cell? ⟨w.heap.size + 1, 1, none⟩ = some (.int .i8 g) ∧ wr.cell? ⟨w.heap.size + 1 + 1, 0, none⟩ = some (.int .i8 f) ∧ wr.cell? ⟨w.heap.size + 1 + 1, 1, none⟩ = some (.int .i8 g) ∧ wr.cell? ⟨w.heap.size, 78, none⟩ = some (.int .u8 1) ∧ Below w.heap.size w wr) (fun i _ => 2 - (intOf i).toNat)
    case atStart => exact ⟨0, by omega, rfl, by omega, by omega, H0.out.1, H0.out.2.1, H0.out.2.2.1, H0.out.2.2.2.1, H0.out.2.2.2.2.1, H0.out.2.2.2.2.2⟩
    case round =>
      obtain ⟨n, hn, rfl, i1, i2, m0, m1, l0, l1, p78, hbr⟩ := hrel
      have I1 := Lib.hid i1
      have I2 := Lib.hid i2
      clear i1 i2
      rcases (show n = 0 ∨ n = 1 ∨ n = 2 by omega) with rfl | rfl | rfl
      · cases b1 : decide (f - 56 < 0) <;> cases b2 : decide (7 < f - 56)
        all_goals
          go_wp2_with (first
            | (go_at_call 74; refine (home_any 1 _ (by decide)).mono ?_; rintro e u ⟨rfl, rfl⟩))
        · exact ⟨⟨1, by omega, by go_num, fun _ => by rw [Hin.out f]; simp only [Bool.not_eq_true', Bool.or_eq_false_iff, decide_eq_false_iff_not] at b1 b2 ⊢; omega, by omega, m0, m1, l0, l1, p78, hbr⟩, by simp [intOf]⟩
        all_goals
          go_ret
          exact ⟨T.ret_int (by rw [Hs.out, if_neg]; rintro ⟨h, _⟩; rw [Hin.out f] at h; simp only [Bool.not_eq_true', Bool.or_eq_false_iff, decide_eq_false_iff_not, decide_eq_true_eq] at b1 b2 h; omega), hbr⟩
      · cases b1 : decide (g - 56 < 0) <;> cases b2 : decide (7 < g - 56)
        all_goals
          go_wp2_with (first
            | (go_at_call 74; refine (home_any 1 _ (by decide)).mono ?_; rintro e u ⟨rfl, rfl⟩))
        · exact ⟨⟨2, by omega, by go_num, fun _ => I1.out (by omega), fun _ => by rw [Hin.out g]; simp only [Bool.not_eq_true', Bool.or_eq_false_iff, decide_eq_false_iff_not] at b1 b2 ⊢; omega, m0, m1, l0, l1, p78, hbr⟩, by simp [intOf]⟩
        all_goals
          go_ret
          exact ⟨T.ret_int (by rw [Hs.out, if_neg]; rintro ⟨_, h⟩; rw [Hin.out g] at h; simp only [Bool.not_eq_true', Bool.or_eq_false_iff, decide_eq_false_iff_not, decide_eq_true_eq] at b1 b2 h; omega), hbr⟩
      · have Hb := Lib.hid (show T.inHome 1 f = true ∧ T.inHome 1 g = true from ⟨I1.out (by omega), I2.out (by omega)⟩)
        cases hl : decide (f < g)
        · go_wp2
          go_ret
          exact ⟨T.ret_int (by rw [Hs.out, if_pos Hb.out, if_neg (of_decide_eq_false hl)]), hbr⟩
        · go_wp2
          go_ret
          exact ⟨T.ret_int (by rw [Hs.out, if_pos Hb.out, if_pos (of_decide_eq_true hl)]), hbr⟩
end Go.Proofs.YtgkndhpolcnjbaaGreatDoor
namespace Go.Proofs.YtgkndhpolcnjbaaGreatDoor
open Go.RowKit Go.Sort
attribute [local go_sem] Oper.semAt_some
theorem T.below_drewS {B : Nat} {a w : World} (h : Below B a w) (n : Nat) : Below B a (w.drewN n) := ⟨h.os, h.tape, h.output, h.size, h.block⟩
theorem T.side_out {c : Nat → Int} {f g : Int} {ca : Bool} (h : ¬ (c 78 ≤ 1 ∧ ca = true ∧ f ≠ g)) : T.side c f g ca = -1 := by
  unfold T.side
  rw [if_neg (fun k => h ⟨k.1, k.2.1, k.2.2.1⟩)]
set_option maxRecDepth 100000 in
set_option maxHeartbeats 1000000 in
theorem cside_any (c : Nat → Int) (f g a b : Int) (ca : Bool) (w : World) (hc : PosOk c) (hf : -128 ≤ f ∧ f ≤ 127) (hg : -128 ≤ g ∧ g ≤ 127) :
    Calls Tryz.prog 72 #[.agg (posC c), .agg #[.int .i8 f, .int .i8 g, .int .u8 a, .int .u8 b, .bool ca]] w fun e w' => e = .returned (.int .i64 (T.side c f g ca)) ∧ Below w.heap.size w w' := by
  obtain ⟨v0, v1⟩ := pos_u8 hc (i := 78) (by decide) rfl
  by_cases hall : c 78 ≤ 1 ∧ ca = true ∧ f ≠ g
  · obtain ⟨h1, rfl, h3⟩ := hall
    exact cside_in c f g a b (c 78).toNat w (by omega) (by omega) hf hg h3
  · have Hs := Lib.hid (T.side_out hall)
    have hb0 : Below w.heap.size w ((w.alloc (.cells (posC c) 31)).alloc (.cells #[.int .i8 f, .int .i8 g, .int .u8 a, .int .u8 b, .bool ca] 40)) := ((Below.refl _ _).alloc (Nat.le_refl _) _).alloc (by simp) _
    have hp := (PosAt.new w c).alloc (.cells #[.int .i8 f, .int .i8 g, .int .u8 a, .int .u8 b, .bool ca] 40)
    have h78 := hp.cell (i := 78) (by decide)
    rw [show pk 78 = .u8 from rfl] at h78
    generalize c 78 = n at *
    cases e1 : decide (1 < n)
    · have h1 : n ≤ 1 := by simpa using e1
      cases ca
      · clear hall
        go_enter Tryz.func72, Tryz.ntmps72
        go_wp2
        go_ret
        exact ⟨T.ret_int Hs.out, hb0⟩
      · obtain rfl : f = g := by
          have := Decidable.em (f = g)
          rcases this with h | h
          · exact h
          · exact absurd ⟨h1, rfl, h⟩ hall
        clear hall
        go_enter Tryz.func72, Tryz.ntmps72
        go_wp2
        go_ret
        exact ⟨T.ret_int Hs.out, hb0⟩
    · clear hall
      go_enter Tryz.func72, Tryz.ntmps72
      go_wp2
      go_ret
      exact ⟨T.ret_int Hs.out, hb0⟩
namespace T
/-- What Goals tells. -/
def goalsV (c : Nat → Int) (s : Int) : Value := if s < 0 then .tuple #[.int .i64 0, .int .i64 0, .bool false] else .tuple #[.int .i64 (56 * c 78 + (if s = 0 then 6 else 2)), .int .i64 (56 * c 78 + (if s = 0 then 5 else 3)), .bool true]
theorem side_cases (c : Nat → Int) (f g : Int) (ca : Bool) : T.side c f g ca = -1 ∨ (c 78 ≤ 1 ∧ (T.side c f g ca = 0 ∨ T.side c f g ca = 1)) := by
  unfold T.side
  by_cases h : c 78 ≤ 1 ∧ ca = true ∧ f ≠ g ∧ inHome (c 78).toNat f = true ∧ inHome (c 78).toNat g = true
  · rw [if_pos h]
    refine .inr ⟨h.1, ?_⟩
    by_cases hl : f < g
    · exact .inl (if_pos hl)
    · exact .inr (if_neg hl)
  · exact .inl (if_neg h)
end T
theorem cside_eq (c : Nat → Int) (f g a b : Int) (ca : Bool) (s : Int) (w : World) (hc : PosOk c) (hf : -128 ≤ f ∧ f ≤ 127) (hg : -128 ≤ g ∧ g ≤ 127) (h : T.side c f g ca = s) :
    Calls Tryz.prog 72 #[.agg (posC c), .agg #[.int .i8 f, .int .i8 g, .int .u8 a, .int .u8 b, .bool ca]] w fun e w' => e = .returned (.int .i64 s) ∧ Below w.heap.size w w' := by
  rw [← h]; exact cside_any c f g a b ca w hc hf hg
theorem Tryz.size_MoveS : (Tryz.prog.info? 40).map (·.size) = some 5 := by kernel_rfl
set_option maxRecDepth 100000 in
set_option maxHeartbeats 1000000 in
theorem cgoals_any (c : Nat → Int) (f g a b : Int) (ca : Bool) (w : World) (hc : PosOk c) (hf : -128 ≤ f ∧ f ≤ 127) (hg : -128 ≤ g ∧ g ≤ 127) :
    Calls Tryz.prog 21 #[.agg (posC c), .agg #[.int .i8 f, .int .i8 g, .int .u8 a, .int .u8 b, .bool ca]] w fun e w' => e = .returned (T.goalsV c (T.side c f g ca)) ∧ Below w.heap.size w w' := by
  obtain ⟨v0, v1⟩ := pos_u8 hc (i := 78) (by decide) rfl
  have hb0 : Below w.heap.size w ((w.alloc (.cells (posC c) 31)).alloc (.cells #[.int .i8 f, .int .i8 g, .int .u8 a, .int .u8 b, .bool ca] 40)) := ((Below.refl _ _).alloc (Nat.le_refl _) _).alloc (by simp) _
  have hp := (PosAt.new w c).alloc (.cells #[.int .i8 f, .int .i8 g, .int .u8 a, .int .u8 b, .bool ca] 40)
  have hM := RowAt.new (w.alloc (.cells (posC c) 31)) #[.int .i8 f, .int .i8 g, .int .u8 a, .int .u8 b, .bool ca] 40
  rw [World.size_alloc] at hM
  obtain ⟨s, hs⟩ : ∃ s, T.side c f g ca = s := ⟨_, rfl⟩
  have hcs := T.side_cases c f g ca
  rw [hs] at hcs ⊢
  have HS := Lib.hid (fun W => cside_eq c f g a b ca s W hc hf hg hs)
  clear hs
  rcases hcs with rfl | ⟨h1, h2⟩
  · go_enter Tryz.func21, Tryz.ntmps21
    go_wp2_with (first
      | ((with_reducible refine wp_load_box rfl _ rfl ?_); refine ⟨_, _, rfl, (by first | assumption | exact hp.alloc _), ?_⟩)
      | ((with_reducible refine wp_load_row' rfl 40 _ rfl Tryz.underlying40 rfl ?_); refine ⟨_, _, _, rfl, (by first | assumption | exact hM.alloc _), Tryz.size_MoveS, ?_⟩)
      | (go_at_call 72; refine (HS.out _).mono ?_; rintro e u ⟨rfl, hb⟩; replace hp := hp.below hb; replace hb0 := below_next hb0 hb; clear hb))
    go_ret3
    exact ⟨rfl, hb0⟩
  · have i0 : ∀ w : World, (Instr.index 99 (.agg #[.int .i64 6, .int .i64 5, .int .i64 2, .int .i64 3]) (.int .i64 0)).run Tryz.prog w = .ok (.agg #[.int .i64 6, .int .i64 5]) w := fun _ => by kernel_rfl
    have i1 : ∀ w : World, (Instr.index 99 (.agg #[.int .i64 6, .int .i64 5, .int .i64 2, .int .i64 3]) (.int .i64 1)).run Tryz.prog w = .ok (.agg #[.int .i64 2, .int .i64 3]) w := fun _ => by kernel_rfl
    have i2 : ∀ w : World, (Instr.index 98 (.agg #[.int .i64 6, .int .i64 5]) (.int .i64 0)).run Tryz.prog w = .ok (.int .i64 6) w := fun _ => by kernel_rfl
    have i3 : ∀ w : World, (Instr.index 98 (.agg #[.int .i64 6, .int .i64 5]) (.int .i64 1)).run Tryz.prog w = .ok (.int .i64 5) w := fun _ => by kernel_rfl
    have i4 : ∀ w : World, (Instr.index 98 (.agg #[.int .i64 2, .int .i64 3]) (.int .i64 0)).run Tryz.prog w = .ok (.int .i64 2) w := fun _ => by kernel_rfl
    have i5 : ∀ w : World, (Instr.index 98 (.agg #[.int .i64 2, .int .i64 3]) (.int .i64 1)).run Tryz.prog w = .ok (.int .i64 3) w := fun _ => by kernel_rfl
    rcases (show c 78 = 0 ∨ c 78 = 1 by omega) with ht | ht <;> rcases h2 with rfl | rfl
    · unfold T.goalsV
      rw [ht]
      go_enter Tryz.func21, Tryz.ntmps21
      go_wp2_with (first
        | ((with_reducible refine wp_load_box rfl _ rfl ?_); refine ⟨_, _, rfl, (by first | assumption | exact hp.alloc _), ?_⟩)
        | ((with_reducible refine wp_load_row' rfl 40 _ rfl Tryz.underlying40 rfl ?_); refine ⟨_, _, _, rfl, (by first | assumption | exact hM.alloc _), Tryz.size_MoveS, ?_⟩)
        | (go_at_call 72; refine (HS.out _).mono ?_; rintro e u ⟨rfl, hb⟩; replace hp := hp.below hb; replace hb0 := below_next hb0 hb; clear hb; have h78 := hp.cell (i := 78) (by decide); rw [show pk 78 = .u8 from rfl, ht] at h78)
        | (go_at_call 73; refine (goals_any _).mono ?_; rintro e u ⟨rfl, hb⟩; replace hp := hp.below hb; replace hb0 := below_next hb0 hb; clear hb; have h78 := hp.cell (i := 78) (by decide); rw [show pk 78 = .u8 from rfl, ht] at h78)
        | (go_at_call 74; refine (home_any 0 _ (by decide)).mono ?_; rintro e u ⟨rfl, rfl⟩))
      have gu := hb0.size
      have hG := RowAt.new u #[.int .i64 6, .int .i64 5] 98
      have g0 := hG.cell 0
      have g1 := hG.cell 1
      simp only [List.getElem?_toArray, List.getElem?_cons_zero, List.getElem?_cons_succ] at g0 g1
      have hp4 := (hp.alloc (.cells #[.int .i64 6, .int .i64 5] 98)).cell (i := 78) (by decide)
      rw [show pk 78 = .u8 from rfl, ht] at hp4
      have lp := hp.lt
      replace hb0 := hb0.alloc hb0.size (.cells #[.int .i64 6, .int .i64 5] 98)
      go_quiet (first | (go_at_call 74; exact quiet_same (home_any 0 _ (by decide))))
      go_wp2
      go_ret3
      exact ⟨rfl, T.below_drewS hb0 _⟩
    · unfold T.goalsV
      rw [ht]
      go_enter Tryz.func21, Tryz.ntmps21
      go_wp2_with (first
        | ((with_reducible refine wp_load_box rfl _ rfl ?_); refine ⟨_, _, rfl, (by first | assumption | exact hp.alloc _), ?_⟩)
        | ((with_reducible refine wp_load_row' rfl 40 _ rfl Tryz.underlying40 rfl ?_); refine ⟨_, _, _, rfl, (by first | assumption | exact hM.alloc _), Tryz.size_MoveS, ?_⟩)
        | (go_at_call 72; refine (HS.out _).mono ?_; rintro e u ⟨rfl, hb⟩; replace hp := hp.below hb; replace hb0 := below_next hb0 hb; clear hb; have h78 := hp.cell (i := 78) (by decide); rw [show pk 78 = .u8 from rfl, ht] at h78)
        | (go_at_call 73; refine (goals_any _).mono ?_; rintro e u ⟨rfl, hb⟩; replace hp := hp.below hb; replace hb0 := below_next hb0 hb; clear hb; have h78 := hp.cell (i := 78) (by decide); rw [show pk 78 = .u8 from rfl, ht] at h78)
        | (go_at_call 74; refine (home_any 0 _ (by decide)).mono ?_; rintro e u ⟨rfl, rfl⟩))
      have gu := hb0.size
      have hG := RowAt.new u #[.int .i64 2, .int .i64 3] 98
      have g0 := hG.cell 0
      have g1 := hG.cell 1
      simp only [List.getElem?_toArray, List.getElem?_cons_zero, List.getElem?_cons_succ] at g0 g1
      have hp4 := (hp.alloc (.cells #[.int .i64 2, .int .i64 3] 98)).cell (i := 78) (by decide)
      rw [show pk 78 = .u8 from rfl, ht] at hp4
      have lp := hp.lt
      replace hb0 := hb0.alloc hb0.size (.cells #[.int .i64 2, .int .i64 3] 98)
      go_quiet (first | (go_at_call 74; exact quiet_same (home_any 0 _ (by decide))))
      go_wp2
      go_ret3
      exact ⟨rfl, T.below_drewS hb0 _⟩
    · unfold T.goalsV
      rw [ht]
      go_enter Tryz.func21, Tryz.ntmps21
      go_wp2_with (first
        | ((with_reducible refine wp_load_box rfl _ rfl ?_); refine ⟨_, _, rfl, (by first | assumption | exact hp.alloc _), ?_⟩)
        | ((with_reducible refine wp_load_row' rfl 40 _ rfl Tryz.underlying40 rfl ?_); refine ⟨_, _, _, rfl, (by first | assumption | exact hM.alloc _), Tryz.size_MoveS, ?_⟩)
        | (go_at_call 72; refine (HS.out _).mono ?_; rintro e u ⟨rfl, hb⟩; replace hp := hp.below hb; replace hb0 := below_next hb0 hb; clear hb; have h78 := hp.cell (i := 78) (by decide); rw [show pk 78 = .u8 from rfl, ht] at h78)
        | (go_at_call 73; refine (goals_any _).mono ?_; rintro e u ⟨rfl, hb⟩; replace hp := hp.below hb; replace hb0 := below_next hb0 hb; clear hb; have h78 := hp.cell (i := 78) (by decide); rw [show pk 78 = .u8 from rfl, ht] at h78)
        | (go_at_call 74; refine (home_any 1 _ (by decide)).mono ?_; rintro e u ⟨rfl, rfl⟩))
      have gu := hb0.size
      have hG := RowAt.new u #[.int .i64 6, .int .i64 5] 98
      have g0 := hG.cell 0
      have g1 := hG.cell 1
      simp only [List.getElem?_toArray, List.getElem?_cons_zero, List.getElem?_cons_succ] at g0 g1
      have hp4 := (hp.alloc (.cells #[.int .i64 6, .int .i64 5] 98)).cell (i := 78) (by decide)
      rw [show pk 78 = .u8 from rfl, ht] at hp4
      have lp := hp.lt
      replace hb0 := hb0.alloc hb0.size (.cells #[.int .i64 6, .int .i64 5] 98)
      go_quiet (first | (go_at_call 74; exact quiet_same (home_any 1 _ (by decide))))
      go_wp2
      go_ret3
      exact ⟨rfl, T.below_drewS hb0 _⟩
    · unfold T.goalsV
      rw [ht]
      go_enter Tryz.func21, Tryz.ntmps21
      go_wp2_with (first
        | ((with_reducible refine wp_load_box rfl _ rfl ?_); refine ⟨_, _, rfl, (by first | assumption | exact hp.alloc _), ?_⟩)
        | ((with_reducible refine wp_load_row' rfl 40 _ rfl Tryz.underlying40 rfl ?_); refine ⟨_, _, _, rfl, (by first | assumption | exact hM.alloc _), Tryz.size_MoveS, ?_⟩)
        | (go_at_call 72; refine (HS.out _).mono ?_; rintro e u ⟨rfl, hb⟩; replace hp := hp.below hb; replace hb0 := below_next hb0 hb; clear hb; have h78 := hp.cell (i := 78) (by decide); rw [show pk 78 = .u8 from rfl, ht] at h78)
        | (go_at_call 73; refine (goals_any _).mono ?_; rintro e u ⟨rfl, hb⟩; replace hp := hp.below hb; replace hb0 := below_next hb0 hb; clear hb; have h78 := hp.cell (i := 78) (by decide); rw [show pk 78 = .u8 from rfl, ht] at h78)
        | (go_at_call 74; refine (home_any 1 _ (by decide)).mono ?_; rintro e u ⟨rfl, rfl⟩))
      have gu := hb0.size
      have hG := RowAt.new u #[.int .i64 2, .int .i64 3] 98
      have g0 := hG.cell 0
      have g1 := hG.cell 1
      simp only [List.getElem?_toArray, List.getElem?_cons_zero, List.getElem?_cons_succ] at g0 g1
      have hp4 := (hp.alloc (.cells #[.int .i64 2, .int .i64 3] 98)).cell (i := 78) (by decide)
      rw [show pk 78 = .u8 from rfl, ht] at hp4
      have lp := hp.lt
      replace hb0 := hb0.alloc hb0.size (.cells #[.int .i64 2, .int .i64 3] 98)
      go_quiet (first | (go_at_call 74; exact quiet_same (home_any 1 _ (by decide))))
      go_wp2
      go_ret3
      exact ⟨rfl, T.below_drewS hb0 _⟩
end Go.Proofs.YtgkndhpolcnjbaaGreatDoor
