/- The program's package pseudo: each: a move handed on, once for each kind that a pawn may become. -/
import Derived.Test.YtlphjjekamhnlaaDoorSideC
import Derived.Test.YtlphjjekamhnlaaDoorProm
import Derived.Test.YtlphjjekamhnlaaDoorRoundO
import Derived.Test.YtlphjjekamhnlaaDoorMoves13
namespace Go.Proofs.YtlphjjekamhnlaaDoor
open Go.RowKit Go.Sort
attribute [local go_sem] Oper.semAt_some

namespace Z
def mv (a b k : Nat) : Mv := ((a : Int), (b : Int), (k : Int), 0, false)
/-- What is handed on for one square and one goal. -/
def eachL (c : Nat → Int) (t a b : Nat) : List Mv := if P.kind (c (1 + a)) = 1 ∧ rank t b = 7 then (V.promos (c 0).toNat).map (mv a b) else [mv a b 0]
def enc (m : Mv) : Array Value := #[.agg (M.cell m).toArray]
theorem one_of (c : Nat → Int) (t a b : Nat) (h : ¬ (P.kind (c (1 + a)) = 1 ∧ rank t b = 7)) : eachL c t a b = [mv a b 0] := by unfold eachL; rw [if_neg h]
end Z
set_option maxRecDepth 100000 in
set_option maxHeartbeats 4000000 in
/-- A move that is handed on once. -/
theorem each_one (n l : Nat) (n0 : Nat) (c : Nat → Int) (o h : BitVec 64) (t a b : Nat) (hc : PosOk c) (ha : a < 64) (hb : b < 64) (ht : c 78 = (t : Int)) (J : (Nat → Prop) → List Mv → World → Prop) (O : Nat → Prop) (pre : List Mv) (W : World)
    (hJ1 : Owns1 J) (hJ : J O pre W) (hn0 : n0 ≤ W.heap.size) (hO : ∀ q, O q → q < W.heap.size) (hone : ¬ (P.kind (c (1 + a)) = 1 ∧ Z.rank t b = 7))
    (hY : ∀ O' W1, J O' pre W1 → YieldAt Fence.wide (n - 1) Tryd.prog l (Z.enc (Z.mv a b 0)) W1 fun e W' => e = .returned (.bool true) ∧ J O' (pre ++ [Z.mv a b 0]) W' ∧ KO n0 O' W1 W') :
    CallsIn Fence.wide n Tryd.prog 55 #[.agg (Z.sd c o h), .agg (M.cell (Z.mv a b 0)).toArray, .func (.yield l) #[] #[]] W fun e W' => e = .returned (.bool true) ∧ J O (pre ++ [Z.mv a b 0]) W' ∧ KO n0 O W W' := by
  have hp := RowAt.new W (Z.sd c o h) 51
  have hb0 : Below W.heap.size W (W.alloc (.cells (Z.sd c o h) 51)) := (Below.refl _ _).alloc (Nat.le_refl _) _
  obtain ⟨W1, hW1⟩ : ∃ W1, W.alloc (.cells (Z.sd c o h) 51) = W1 := ⟨_, rfl⟩
  have hs1 : W1.heap.size = W.heap.size + 1 := by rw [← hW1]; simp
  rw [hW1] at hp hb0
  have hm := RowAt.new W1 (M.cell (Z.mv a b 0)).toArray 36
  have hb1 := hb0.alloc (by omega) (.cells (M.cell (Z.mv a b 0)).toArray 36)
  replace hp := hp.alloc (.cells (M.cell (Z.mv a b 0)).toArray 36)
  obtain ⟨W2, hW2⟩ : ∃ W2, W1.alloc (.cells (M.cell (Z.mv a b 0)).toArray 36) = W2 := ⟨_, rfl⟩
  have hs2 : W2.heap.size = W.heap.size + 2 := by rw [← hW2]; simp; omega
  rw [hW2] at hp hm hb1
  rw [hs1] at hm
  replace hW2 : W1.alloc (.cells #[.int .i8 (a : Int), .int .i8 (b : Int), .int .u8 0, .int .u8 0, .bool false] 36) = W2 := hW2
  replace hm : RowAt W2 (W.heap.size + 1) 36 #[.int .i8 (a : Int), .int .i8 (b : Int), .int .u8 0, .int .u8 0, .bool false] := hm
  obtain ⟨v0, v1⟩ := pos_u8 hc (i := 1 + a) (by omega) (pk_board ha)
  have hsq := (hp.cell (1 + a)).trans (Z.sd_pos c o h (1 + a) (by omega))
  rw [pk_board ha] at hsq
  have h78 := (hp.cell 78).trans (Z.sd_pos c o h 78 (by decide))
  rw [show pk 78 = .u8 from rfl, ht] at h78
  have m0 := hm.cell 0
  have m1 := hm.cell 1
  have m2 := hm.cell 2
  have m3 := hm.cell 3
  have m4 := hm.cell 4
  simp only [List.getElem?_toArray, List.getElem?_cons_zero, List.getElem?_cons_succ] at m0 m1 m2 m3 m4
  obtain ⟨x, hx⟩ : ∃ x, c (1 + a) = x := ⟨_, rfl⟩
  rw [hx] at hsq v0 v1 hone
  obtain ⟨k, hk⟩ : ∃ k, P.kind x = k := ⟨_, rfl⟩
  obtain ⟨r, hr⟩ : ∃ r, Z.rank t b = r := ⟨_, rfl⟩
  rw [hk, hr] at hone
  have HK : Hid (∀ w, Calls Tryd.prog 61 #[.int .u8 x] w fun e w' => e = .returned (.int .u8 k) ∧ w = w') := Lib.hid (fun w => by rw [← hk]; exact kind_any x w v0 v1)
  have HR : Hid (∀ w, Calls Tryd.prog 91 #[.int .u8 (t : Int), .int .i64 (b : Int)] w fun e w' => e = .returned (.int .i64 (r : Int)) ∧ w = w') := Lib.hid (fun w => by rw [← hr]; exact rank_any t b w hb)
  have HJ := Lib.hid (hJ1 O O pre W W2 hJ hb1 (fun q hq => .inl hq))
  have HY := Lib.hid (hY O W2 HJ.out)
  have HM := Lib.hid hm
  have HB := Lib.hid hb1
  clear hp hm hb0 hb1 hJ hJ1 hY hk hr hx
  have hwb : wrap64 (b : Int) = (b : Int) := IntWalk.wrap64_in _ ⟨by omega, by omega⟩
  refine callsIn_of_wp Tryd.func55 rfl trivial ?_ rfl
  simp only [Tryd.ntmps55, List.size_toArray, List.length_cons, List.length_nil, Nat.reduceAdd, Nat.reduceSub, Array.replicate_succ, Array.replicate_zero, List.push_toArray, List.append_toArray, List.nil_append, List.cons_append]
  change (Code.wpIn _ _ _ _ _ { tmps := #[.agg (Z.sd c o h), .agg #[.int .i8 (a : Int), .int .i8 (b : Int), .int .u8 0, .int .u8 0, .bool false], .func (.yield l) #[] #[], _, _, _, _, _, _, _, _, _, _, _, _, _, _, _, _, _, _, _, _, _, _, _, _, _, _, _, _, _, _, _, _, _, _, _, _, _, _, _, _, _, _, _], defers := _ } _)
  obtain ⟨fn, tmps, assign, body, hy, hR⟩ := HY.out
  change (Instr.yield l #[.agg #[.int .i8 (a : Int), .int .i8 (b : Int), .int .u8 0, .int .u8 0, .bool false]]).run _ _ = _ at hy
  by_cases hk1 : k = 1
  · have hr7 : r ≠ 7 := fun e => hone ⟨hk1, e⟩
    have d1 : (k != 1) = false := by simp; omega
    have d7 : ((r : Int) != 7) = true := by simp; omega
    clear hk1 hr7 hone
    gi_wp2_with (first
      | (refine ⟨trivial, fun h => by simp [Fence.wide] at h, ?_⟩; gi_at_call 61; refine (callsIn_wide.2 (HK.out _)).mono ?_; rintro e w' ⟨rfl, rfl⟩)
      | (refine ⟨trivial, fun h => by simp [Fence.wide] at h, ?_⟩; gi_at_call 91; refine (callsIn_wide.2 (HR.out _)).mono ?_; rintro e w' ⟨rfl, rfl⟩))
    refine ⟨fun h => by simp [Fence.wide] at h, hR.mono ?_⟩
    rintro e W3 ⟨rfl, hJ3, hk3⟩
    have HF := Lib.hid (show J O (pre ++ [Z.mv a b 0]) W3 ∧ KO n0 O W W3 from ⟨hJ3, KO.trans ⟨HB.out.mono hn0, fun q hq => HB.out.block q (hO q hq)⟩ hk3⟩)
    clear hJ3 hk3
    gi_wp2
    go_ret
    exact ⟨rfl, HF.out⟩
  · have d0 : (k == 1) = false := by simp; omega
    have d1 : (k != 1) = true := by simp; omega
    have d2 : decide (k = 1) = false := by simp; omega
    clear hone
    gi_wp2_with (first
      | (refine ⟨trivial, fun h => by simp [Fence.wide] at h, ?_⟩; gi_at_call 61; refine (callsIn_wide.2 (HK.out _)).mono ?_; rintro e w' ⟨rfl, rfl⟩)
      | (refine ⟨trivial, fun h => by simp [Fence.wide] at h, ?_⟩; gi_at_call 91; refine (callsIn_wide.2 (HR.out _)).mono ?_; rintro e w' ⟨rfl, rfl⟩))
    refine ⟨trivial, ?_⟩
    gi_wp2_with fail
    refine ⟨fun h => by simp [Fence.wide] at h, hR.mono ?_⟩
    rintro e W3 ⟨rfl, hJ3, hk3⟩
    have HF := Lib.hid (show J O (pre ++ [Z.mv a b 0]) W3 ∧ KO n0 O W W3 from ⟨hJ3, KO.trans ⟨HB.out.mono hn0, fun q hq => HB.out.block q (hO q hq)⟩ hk3⟩)
    clear hJ3 hk3
    gi_wp2
    go_ret
    exact ⟨rfl, HF.out⟩
end Go.Proofs.YtlphjjekamhnlaaDoor
