/- The program's package castle: Side, Goals; the document's Side. -/
import Derived.Test.YtnkkhdcjbjiimaaDoorCastS
namespace Go.Proofs.YtnkkhdcjbjiimaaDoor
open Go.RowKit Go.Sort
attribute [local go_sem] Oper.semAt_some

theorem T.below_drewS {B : Nat} {a w : World} (h : Below B a w) (n : Nat) : Below B a (w.drewN n) := ⟨h.os, h.tape, h.output, h.size, h.block⟩
theorem T.side_out {c : Nat → Int} {f g : Int} {ca : Bool} (h : ¬ (c 78 ≤ 1 ∧ ca = true ∧ f ≠ g)) : T.side c f g ca = -1 := by
  unfold T.side
  rw [if_neg (fun k => h ⟨k.1, k.2.1, k.2.2.1⟩)]

set_option maxRecDepth 100000 in
set_option maxHeartbeats 1000000 in
theorem cside_any (c : Nat → Int) (f g a b : Int) (ca : Bool) (w : World) (hc : PosOk c) (hf : -128 ≤ f ∧ f ≤ 127) (hg : -128 ≤ g ∧ g ≤ 127) :
    Calls Tryd.prog 17 #[.agg (posC c), .agg #[.int .i8 f, .int .i8 g, .int .u8 a, .int .u8 b, .bool ca]] w fun e w' => e = .returned (.int .i64 (T.side c f g ca)) ∧ Below w.heap.size w w' := by
  obtain ⟨v0, v1⟩ := pos_u8 hc (i := 78) (by decide) rfl
  by_cases hall : c 78 ≤ 1 ∧ ca = true ∧ f ≠ g
  · obtain ⟨h1, rfl, h3⟩ := hall
    exact cside_in c f g a b (c 78).toNat w (by omega) (by omega) hf hg h3
  · have Hs := Lib.hid (T.side_out hall)
    have hb0 : Below w.heap.size w ((w.alloc (.cells (posC c) 31)).alloc (.cells #[.int .i8 f, .int .i8 g, .int .u8 a, .int .u8 b, .bool ca] 36)) := ((Below.refl _ _).alloc (Nat.le_refl _) _).alloc (by simp) _
    have hp := (PosAt.new w c).alloc (.cells #[.int .i8 f, .int .i8 g, .int .u8 a, .int .u8 b, .bool ca] 36)
    have h78 := hp.cell (i := 78) (by decide)
    rw [show pk 78 = .u8 from rfl] at h78
    generalize c 78 = n at *
    cases e1 : decide (1 < n)
    · have h1 : n ≤ 1 := by simpa using e1
      cases ca
      · clear hall
        go_enter Tryd.func17, Tryd.ntmps17
        go_wp2
        go_ret
        exact ⟨T.ret_int Hs.out, hb0⟩
      · obtain rfl : f = g := by
          have := Decidable.em (f = g)
          rcases this with h | h
          · exact h
          · exact absurd ⟨h1, rfl, h⟩ hall
        clear hall
        go_enter Tryd.func17, Tryd.ntmps17
        go_wp2
        go_ret
        exact ⟨T.ret_int Hs.out, hb0⟩
    · clear hall
      go_enter Tryd.func17, Tryd.ntmps17
      go_wp2
      go_ret
      exact ⟨T.ret_int Hs.out, hb0⟩

namespace T
/-- What Goals tells. -/
def goalsV (c : Nat → Int) (s : Int) : Value := if s < 0 then .tuple #[.int .i64 0, .int .i64 0, .bool false] else .tuple #[.int .i64 (56 * c 78 + (if s = 0 then 6 else 2)), .int .i64 (56 * c 78 + (if s = 0 then 5 else 3)), .bool true]
theorem side_cases (c : Nat → Int) (f g : Int) (ca : Bool) : T.side c f g ca = -1 ∨ (c 78 ≤ 1 ∧ (T.side c f g ca = 0 ∨ T.side c f g ca = 1)) := by
  unfold T.side
  by_cases h : c 78 ≤ 1 ∧ ca = true ∧ f ≠ g ∧ inHome (c 78).toNat f = true ∧ inHome (c 78).toNat g = true
  · rw [if_pos h]
    refine .inr ⟨h.1, ?_⟩
    by_cases hl : f < g
    · exact .inl (if_pos hl)
    · exact .inr (if_neg hl)
  · exact .inl (if_neg h)
end T
theorem cside_eq (c : Nat → Int) (f g a b : Int) (ca : Bool) (s : Int) (w : World) (hc : PosOk c) (hf : -128 ≤ f ∧ f ≤ 127) (hg : -128 ≤ g ∧ g ≤ 127) (h : T.side c f g ca = s) :
    Calls Tryd.prog 17 #[.agg (posC c), .agg #[.int .i8 f, .int .i8 g, .int .u8 a, .int .u8 b, .bool ca]] w fun e w' => e = .returned (.int .i64 s) ∧ Below w.heap.size w w' := by
  rw [← h]; exact cside_any c f g a b ca w hc hf hg

theorem Tryd.size_MoveS : (Tryd.prog.info? 36).map (·.size) = some 5 := by kernel_rfl
set_option maxRecDepth 100000 in
set_option maxHeartbeats 1000000 in
theorem cgoals_any (c : Nat → Int) (f g a b : Int) (ca : Bool) (w : World) (hc : PosOk c) (hf : -128 ≤ f ∧ f ≤ 127) (hg : -128 ≤ g ∧ g ≤ 127) :
    Calls Tryd.prog 23 #[.agg (posC c), .agg #[.int .i8 f, .int .i8 g, .int .u8 a, .int .u8 b, .bool ca]] w fun e w' => e = .returned (T.goalsV c (T.side c f g ca)) ∧ Below w.heap.size w w' := by
  obtain ⟨v0, v1⟩ := pos_u8 hc (i := 78) (by decide) rfl
  have hb0 : Below w.heap.size w ((w.alloc (.cells (posC c) 31)).alloc (.cells #[.int .i8 f, .int .i8 g, .int .u8 a, .int .u8 b, .bool ca] 36)) := ((Below.refl _ _).alloc (Nat.le_refl _) _).alloc (by simp) _
  have hp := (PosAt.new w c).alloc (.cells #[.int .i8 f, .int .i8 g, .int .u8 a, .int .u8 b, .bool ca] 36)
  have hM := RowAt.new (w.alloc (.cells (posC c) 31)) #[.int .i8 f, .int .i8 g, .int .u8 a, .int .u8 b, .bool ca] 36
  rw [World.size_alloc] at hM
  obtain ⟨s, hs⟩ : ∃ s, T.side c f g ca = s := ⟨_, rfl⟩
  have hcs := T.side_cases c f g ca
  rw [hs] at hcs ⊢
  have HS := Lib.hid (fun W => cside_eq c f g a b ca s W hc hf hg hs)
  clear hs
  rcases hcs with rfl | ⟨h1, h2⟩
  · go_enter Tryd.func23, Tryd.ntmps23
    go_wp2_with (first
      | ((with_reducible refine wp_load_box rfl _ rfl ?_); refine ⟨_, _, rfl, (by first | assumption | exact hp.alloc _), ?_⟩)
      | ((with_reducible refine wp_load_row' rfl 36 _ rfl Tryd.underlying36 rfl ?_); refine ⟨_, _, _, rfl, (by first | assumption | exact hM.alloc _), Tryd.size_MoveS, ?_⟩)
      | (go_at_call 17; refine (HS.out _).mono ?_; rintro e u ⟨rfl, hb⟩; replace hp := hp.below hb; replace hb0 := below_next hb0 hb; clear hb))
    go_ret3
    exact ⟨rfl, hb0⟩
  · have i0 : ∀ w : World, (Instr.index 78 (.agg #[.int .i64 6, .int .i64 5, .int .i64 2, .int .i64 3]) (.int .i64 0)).run Tryd.prog w = .ok (.agg #[.int .i64 6, .int .i64 5]) w := fun _ => by kernel_rfl
    have i1 : ∀ w : World, (Instr.index 78 (.agg #[.int .i64 6, .int .i64 5, .int .i64 2, .int .i64 3]) (.int .i64 1)).run Tryd.prog w = .ok (.agg #[.int .i64 2, .int .i64 3]) w := fun _ => by kernel_rfl
    have i2 : ∀ w : World, (Instr.index 77 (.agg #[.int .i64 6, .int .i64 5]) (.int .i64 0)).run Tryd.prog w = .ok (.int .i64 6) w := fun _ => by kernel_rfl
    have i3 : ∀ w : World, (Instr.index 77 (.agg #[.int .i64 6, .int .i64 5]) (.int .i64 1)).run Tryd.prog w = .ok (.int .i64 5) w := fun _ => by kernel_rfl
    have i4 : ∀ w : World, (Instr.index 77 (.agg #[.int .i64 2, .int .i64 3]) (.int .i64 0)).run Tryd.prog w = .ok (.int .i64 2) w := fun _ => by kernel_rfl
    have i5 : ∀ w : World, (Instr.index 77 (.agg #[.int .i64 2, .int .i64 3]) (.int .i64 1)).run Tryd.prog w = .ok (.int .i64 3) w := fun _ => by kernel_rfl
    rcases (show c 78 = 0 ∨ c 78 = 1 by omega) with ht | ht <;> rcases h2 with rfl | rfl
    · unfold T.goalsV
      rw [ht]
      go_enter Tryd.func23, Tryd.ntmps23
      go_wp2_with (first
        | ((with_reducible refine wp_load_box rfl _ rfl ?_); refine ⟨_, _, rfl, (by first | assumption | exact hp.alloc _), ?_⟩)
        | ((with_reducible refine wp_load_row' rfl 36 _ rfl Tryd.underlying36 rfl ?_); refine ⟨_, _, _, rfl, (by first | assumption | exact hM.alloc _), Tryd.size_MoveS, ?_⟩)
        | (go_at_call 17; refine (HS.out _).mono ?_; rintro e u ⟨rfl, hb⟩; replace hp := hp.below hb; replace hb0 := below_next hb0 hb; clear hb; have h78 := hp.cell (i := 78) (by decide); rw [show pk 78 = .u8 from rfl, ht] at h78)
        | (go_at_call 44; refine (goals_any _).mono ?_; rintro e u ⟨rfl, hb⟩; replace hp := hp.below hb; replace hb0 := below_next hb0 hb; clear hb; have h78 := hp.cell (i := 78) (by decide); rw [show pk 78 = .u8 from rfl, ht] at h78)
        | (go_at_call 39; refine (home_any 0 _ (by decide)).mono ?_; rintro e u ⟨rfl, rfl⟩))
      have gu := hb0.size
      have hG := RowAt.new u #[.int .i64 6, .int .i64 5] 77
      have g0 := hG.cell 0
      have g1 := hG.cell 1
      simp only [List.getElem?_toArray, List.getElem?_cons_zero, List.getElem?_cons_succ] at g0 g1
      have hp4 := (hp.alloc (.cells #[.int .i64 6, .int .i64 5] 77)).cell (i := 78) (by decide)
      rw [show pk 78 = .u8 from rfl, ht] at hp4
      have lp := hp.lt
      replace hb0 := hb0.alloc hb0.size (.cells #[.int .i64 6, .int .i64 5] 77)
      go_quiet (first | (go_at_call 39; exact quiet_same (home_any 0 _ (by decide))))
      go_wp2
      go_ret3
      exact ⟨rfl, T.below_drewS hb0 _⟩
    · unfold T.goalsV
      rw [ht]
      go_enter Tryd.func23, Tryd.ntmps23
      go_wp2_with (first
        | ((with_reducible refine wp_load_box rfl _ rfl ?_); refine ⟨_, _, rfl, (by first | assumption | exact hp.alloc _), ?_⟩)
        | ((with_reducible refine wp_load_row' rfl 36 _ rfl Tryd.underlying36 rfl ?_); refine ⟨_, _, _, rfl, (by first | assumption | exact hM.alloc _), Tryd.size_MoveS, ?_⟩)
        | (go_at_call 17; refine (HS.out _).mono ?_; rintro e u ⟨rfl, hb⟩; replace hp := hp.below hb; replace hb0 := below_next hb0 hb; clear hb; have h78 := hp.cell (i := 78) (by decide); rw [show pk 78 = .u8 from rfl, ht] at h78)
        | (go_at_call 44; refine (goals_any _).mono ?_; rintro e u ⟨rfl, hb⟩; replace hp := hp.below hb; replace hb0 := below_next hb0 hb; clear hb; have h78 := hp.cell (i := 78) (by decide); rw [show pk 78 = .u8 from rfl, ht] at h78)
        | (go_at_call 39; refine (home_any 0 _ (by decide)).mono ?_; rintro e u ⟨rfl, rfl⟩))
      have gu := hb0.size
      have hG := RowAt.new u #[.int .i64 2, .int .i64 3] 77
      have g0 := hG.cell 0
      have g1 := hG.cell 1
      simp only [List.getElem?_toArray, List.getElem?_cons_zero, List.getElem?_cons_succ] at g0 g1
      have hp4 := (hp.alloc (.cells #[.int .i64 2, .int .i64 3] 77)).cell (i := 78) (by decide)
      rw [show pk 78 = .u8 from rfl, ht] at hp4
      have lp := hp.lt
      replace hb0 := hb0.alloc hb0.size (.cells #[.int .i64 2, .int .i64 3] 77)
      go_quiet (first | (go_at_call 39; exact quiet_same (home_any 0 _ (by decide))))
      go_wp2
      go_ret3
      exact ⟨rfl, T.below_drewS hb0 _⟩
    · unfold T.goalsV
      rw [ht]
      go_enter Tryd.func23, Tryd.ntmps23
      go_wp2_with (first
        | ((with_reducible refine wp_load_box rfl _ rfl ?_); refine ⟨_, _, rfl, (by first | assumption | exact hp.alloc _), ?_⟩)
        | ((with_reducible refine wp_load_row' rfl 36 _ rfl Tryd.underlying36 rfl ?_); refine ⟨_, _, _, rfl, (by first | assumption | exact hM.alloc _), Tryd.size_MoveS, ?_⟩)
        | (go_at_call 17; refine (HS.out _).mono ?_; rintro e u ⟨rfl, hb⟩; replace hp := hp.below hb; replace hb0 := below_next hb0 hb; clear hb; have h78 := hp.cell (i := 78) (by decide); rw [show pk 78 = .u8 from rfl, ht] at h78)
        | (go_at_call 44; refine (goals_any _).mono ?_; rintro e u ⟨rfl, hb⟩; replace hp := hp.below hb; replace hb0 := below_next hb0 hb; clear hb; have h78 := hp.cell (i := 78) (by decide); rw [show pk 78 = .u8 from rfl, ht] at h78)
        | (go_at_call 39; refine (home_any 1 _ (by decide)).mono ?_; rintro e u ⟨rfl, rfl⟩))
      have gu := hb0.size
      have hG := RowAt.new u #[.int .i64 6, .int .i64 5] 77
      have g0 := hG.cell 0
      have g1 := hG.cell 1
      simp only [List.getElem?_toArray, List.getElem?_cons_zero, List.getElem?_cons_succ] at g0 g1
      have hp4 := (hp.alloc (.cells #[.int .i64 6, .int .i64 5] 77)).cell (i := 78) (by decide)
      rw [show pk 78 = .u8 from rfl, ht] at hp4
      have lp := hp.lt
      replace hb0 := hb0.alloc hb0.size (.cells #[.int .i64 6, .int .i64 5] 77)
      go_quiet (first | (go_at_call 39; exact quiet_same (home_any 1 _ (by decide))))
      go_wp2
      go_ret3
      exact ⟨rfl, T.below_drewS hb0 _⟩
    · unfold T.goalsV
      rw [ht]
      go_enter Tryd.func23, Tryd.ntmps23
      go_wp2_with (first
        | ((with_reducible refine wp_load_box rfl _ rfl ?_); refine ⟨_, _, rfl, (by first | assumption | exact hp.alloc _), ?_⟩)
        | ((with_reducible refine wp_load_row' rfl 36 _ rfl Tryd.underlying36 rfl ?_); refine ⟨_, _, _, rfl, (by first | assumption | exact hM.alloc _), Tryd.size_MoveS, ?_⟩)
        | (go_at_call 17; refine (HS.out _).mono ?_; rintro e u ⟨rfl, hb⟩; replace hp := hp.below hb; replace hb0 := below_next hb0 hb; clear hb; have h78 := hp.cell (i := 78) (by decide); rw [show pk 78 = .u8 from rfl, ht] at h78)
        | (go_at_call 44; refine (goals_any _).mono ?_; rintro e u ⟨rfl, hb⟩; replace hp := hp.below hb; replace hb0 := below_next hb0 hb; clear hb; have h78 := hp.cell (i := 78) (by decide); rw [show pk 78 = .u8 from rfl, ht] at h78)
        | (go_at_call 39; refine (home_any 1 _ (by decide)).mono ?_; rintro e u ⟨rfl, rfl⟩))
      have gu := hb0.size
      have hG := RowAt.new u #[.int .i64 2, .int .i64 3] 77
      have g0 := hG.cell 0
      have g1 := hG.cell 1
      simp only [List.getElem?_toArray, List.getElem?_cons_zero, List.getElem?_cons_succ] at g0 g1
      have hp4 := (hp.alloc (.cells #[.int .i64 2, .int .i64 3] 77)).cell (i := 78) (by decide)
      rw [show pk 78 = .u8 from rfl, ht] at hp4
      have lp := hp.lt
      replace hb0 := hb0.alloc hb0.size (.cells #[.int .i64 2, .int .i64 3] 77)
      go_quiet (first | (go_at_call 39; exact quiet_same (home_any 1 _ (by decide))))
      go_wp2
      go_ret3
      exact ⟨rfl, T.below_drewS hb0 _⟩

end Go.Proofs.YtnkkhdcjbjiimaaDoor
