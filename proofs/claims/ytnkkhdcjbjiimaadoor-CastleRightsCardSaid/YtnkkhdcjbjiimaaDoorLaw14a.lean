/- The law CastleGoals. -/
import Derived.Test.YtnkkhdcjbjiimaaDoorCastZ
import Derived.Test.YtnkkhdcjbjiimaaDoorCastU
import Derived.Test.YtnkkhdcjbjiimaaDoorOpenM
namespace Go.Proofs.YtnkkhdcjbjiimaaDoor
open Go.RowKit Go.Sort

theorem d14side_eq (c : Nat → Int) (f g a b : Int) (ca : Bool) (s : Int) (w : World) (hc : PosOk c) (hf : -128 ≤ f ∧ f ≤ 127) (hg : -128 ≤ g ∧ g ≤ 127) (h : T.side c f g ca = s) :
    Calls Tryd.prog 22 #[.agg (posC c), .agg #[.int .i8 f, .int .i8 g, .int .u8 a, .int .u8 b, .bool ca]] w fun e w' => e = .returned (.int .i64 s) ∧ Below w.heap.size w w' := by
  rw [← h]; exact d14side_any c f g a b ca w hc hf hg
theorem cgoals_eq (c : Nat → Int) (f g a b : Int) (ca : Bool) (v : Value) (w : World) (hc : PosOk c) (hf : -128 ≤ f ∧ f ≤ 127) (hg : -128 ≤ g ∧ g ≤ 127) (h : T.goalsV c (T.side c f g ca) = v) :
    Calls Tryd.prog 23 #[.agg (posC c), .agg #[.int .i8 f, .int .i8 g, .int .u8 a, .int .u8 b, .bool ca]] w fun e w' => e = .returned v ∧ Below w.heap.size w w' := by
  rw [← h]; exact cgoals_any c f g a b ca w hc hf hg

set_option maxRecDepth 100000 in
set_option maxHeartbeats 2000000 in
theorem castleGoals_walk (c : Nat → Int) (f g a b : Int) (ca : Bool) (w : World) (hc : PosOk c) (hT : Tb w) (hf : -128 ≤ f ∧ f ≤ 127) (hg : -128 ≤ g ∧ g ≤ 127) :
    Calls Tryd.prog 6 #[.agg (posC c), .agg #[.int .i8 f, .int .i8 g, .int .u8 a, .int .u8 b, .bool ca]] w fun e w' => e = .returned (.bool true) ∧ Below w.heap.size w w' := by
  obtain ⟨v0, v1⟩ := pos_u8 hc (i := 78) (by decide) rfl
  have hb0 : Below w.heap.size w ((w.alloc (.cells (posC c) 31)).alloc (.cells #[.int .i8 f, .int .i8 g, .int .u8 a, .int .u8 b, .bool ca] 36)) := ((Below.refl _ _).alloc (Nat.le_refl _) _).alloc (by simp) _
  have hp := (PosAt.new w c).alloc (.cells #[.int .i8 f, .int .i8 g, .int .u8 a, .int .u8 b, .bool ca] 36)
  have hM := RowAt.new (w.alloc (.cells (posC c) 31)) #[.int .i8 f, .int .i8 g, .int .u8 a, .int .u8 b, .bool ca] 36
  rw [World.size_alloc] at hM
  have HT := Lib.hid (fun W (hb : Below w.heap.size w W) => tb_below hT hb)
  obtain ⟨s, hs⟩ : ∃ s, T.side c f g ca = s := ⟨_, rfl⟩
  obtain ⟨V, hV⟩ : ∃ V, T.goalsV c s = V := ⟨_, rfl⟩
  have hcs := T.side_cases c f g ca
  rw [hs] at hcs
  have HS := Lib.hid (fun W => cside_eq c f g a b ca s W hc hf hg hs)
  have HD := Lib.hid (fun W => d14side_eq c f g a b ca s W hc hf hg hs)
  have HG := Lib.hid (fun W => cgoals_eq c f g a b ca V W hc hf hg (by rw [hs]; exact hV))
  clear hs hT hf hg
  rcases hcs with rfl | ⟨h1, h2⟩
  · have hV' : V = .tuple #[.int .i64 0, .int .i64 0, .bool false] := hV.symm
    subst hV'
    clear hV
    go_enter Tryd.func6, Tryd.ntmps6
    go_wp2_with (first
      | ((with_reducible refine wp_load_box rfl _ rfl ?_); refine ⟨_, _, rfl, (by first | assumption | exact hp.alloc _), ?_⟩)
      | ((with_reducible refine wp_load_row' rfl 36 _ rfl Tryd.underlying36 rfl ?_); refine ⟨_, _, _, rfl, hM, ?_, ?_⟩; exact Tryd.size_MoveS)
      | (go_at_call 22; refine (HD.out _).mono ?_; rintro e u ⟨rfl, hb⟩; replace hp := hp.below hb; replace hM := hM.below hb; replace hb0 := below_next hb0 hb; clear hb)
      | (go_at_call 23; refine (HG.out _).mono ?_; rintro e u ⟨rfl, hb⟩; replace hp := hp.below hb; replace hM := hM.below hb; replace hb0 := below_next hb0 hb; clear hb)
      | (go_at_call 17; refine (HS.out _).mono ?_; rintro e u ⟨rfl, hb⟩; replace hp := hp.below hb; replace hM := hM.below hb; replace hb0 := below_next hb0 hb; clear hb)
      | (go_at_call 16; refine (awake14_any _ (HT.out _ hb0)).mono ?_; rintro e u ⟨rfl, hb⟩; replace hb0 := below_next hb0 hb; clear hb))
    go_ret
    exact ⟨rfl, hb0⟩
  · rcases (show c 78 = 0 ∨ c 78 = 1 by omega) with ht | ht <;> rcases h2 with rfl | rfl
    all_goals
      unfold T.goalsV at hV
      rw [ht] at hV
      simp only [Int.reduceLT, if_false, if_true, Int.reduceMul, Int.reduceAdd, Int.reduceEq] at hV
      subst hV
      go_enter Tryd.func6, Tryd.ntmps6
      go_wp2_with (first
        | ((with_reducible refine wp_load_box rfl _ rfl ?_); refine ⟨_, _, rfl, (by first | assumption | exact hp.alloc _), ?_⟩)
        | ((with_reducible refine wp_load_row' rfl 36 _ rfl Tryd.underlying36 rfl ?_); refine ⟨_, _, _, rfl, hM, ?_, ?_⟩; exact Tryd.size_MoveS)
        | (go_at_call 22; refine (HD.out _).mono ?_; rintro e u ⟨rfl, hb⟩; replace hp := hp.below hb; replace hM := hM.below hb; replace hb0 := below_next hb0 hb; clear hb)
        | (go_at_call 23; refine (HG.out _).mono ?_; rintro e u ⟨rfl, hb⟩; replace hp := hp.below hb; replace hM := hM.below hb; replace hb0 := below_next hb0 hb; clear hb)
        | (go_at_call 17; refine (HS.out _).mono ?_; rintro e u ⟨rfl, hb⟩; replace hp := hp.below hb; replace hM := hM.below hb; replace hb0 := below_next hb0 hb; clear hb; have h78 := hp.cell (i := 78) (by decide); rw [show pk 78 = .u8 from rfl, ht] at h78)
        | (go_at_call 24; refine (d14goals_any _ _ (by decide)).mono ?_; rintro e u ⟨rfl, rfl⟩)
        | (go_at_call 16; refine (awake14_any _ (HT.out _ hb0)).mono ?_; rintro e u ⟨rfl, hb⟩; replace hb0 := below_next hb0 hb; clear hb))
      go_ret
      exact ⟨rfl, hb0⟩

theorem castleGoals_law (c : Nat → Int) (f g a b : Int) (ca : Bool) (w : World) (hc : PosOk c) (hm : MovOk f g a b) (hT : Tb w) :
    Calls Tryd.prog 6 #[.agg (posC c), .agg (movC f g a b ca)] w fun e w' => e = .returned (.bool true) ∧ Below w.heap.size w w' :=
  castleGoals_walk c f g a b ca w hc hT hm.1 hm.2.1

end Go.Proofs.YtnkkhdcjbjiimaaDoor
