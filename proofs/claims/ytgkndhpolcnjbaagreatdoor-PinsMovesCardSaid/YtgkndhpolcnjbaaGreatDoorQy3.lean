/- Several texts in one: Ref18, Ref18b, PinsLine, Between, PinsBlk. -/

import Derived.Test.YtgkndhpolcnjbaaGreatDoorQu
import Derived.Test.YtgkndhpolcnjbaaGreatDoorQg
import Derived.Test.YtgkndhpolcnjbaaGreatDoorQy2
import Derived.Test.YtgkndhpolcnjbaaGreatDoorQt
namespace Go.Proofs.YtgkndhpolcnjbaaGreatDoor
open Go.RowKit Go.Sort
namespace N
def inB (r f : Int) : Bool := decide (0 ≤ r) && (decide (r < 8) && (decide (0 ≤ f) && decide (f < 8)))
/-- n steps are enough to come off the board. -/
def fuel (d : Nat) : Nat → Int → Int → Bool
  | 0, r, f => !inB r f
  | n + 1, r, f => !inB r f || fuel d n (r + dUp d) (f + dAs d)
end N
end Go.Proofs.YtgkndhpolcnjbaaGreatDoor
namespace Go.Proofs.YtgkndhpolcnjbaaGreatDoor
open Go.RowKit Go.Sort
namespace N
def dirAt (t : Nat) : Nat := match t with | 0 => 5 | 1 => 4 | 2 => 3 | 3 => 6 | 5 => 2 | 6 => 7 | 7 => 0 | _ => 1
def stepAt (c : Nat → Int) (color : Int) (k t : Nat) : Option (Int × Int × BitVec 64) := if t = 4 then none else dres c color k (dirAt t)
def allTo (c : Nat → Int) (color : Int) (k t : Nat) : List (Int × Int × BitVec 64) := (List.range t).filterMap (stepAt c color k)
theorem allTo_len (c : Nat → Int) (color : Int) (k t : Nat) : (allTo c color k t).length ≤ t := by
  have := List.length_filterMap_le (stepAt c color k) (List.range t)
  simpa [allTo] using this
def dall (c : Nat → Int) (color : Int) : List (Int × Int × BitVec 64) := if color ≤ 1 ∧ 0 ≤ D.find c color 6 then allTo c color (D.find c color 6).toNat 9 else []
end N
end Go.Proofs.YtgkndhpolcnjbaaGreatDoor
namespace Go.Proofs.YtgkndhpolcnjbaaGreatDoor
open Go.RowKit Go.Sort
theorem pon_some (c : Nat → Int) (s : Int) (a b : Int) (v : BitVec 64) (w : World) (hc : BdOk c) (hT : Tb w) (h : N.on c s = some (a, b, v)) :
    Calls Tryz.prog 85 #[.agg (posC c), .int .i64 s] w fun e w' => e = .returned (.tuple #[.agg #[.int .i64 a, .int .i64 b, .int .u64 (U v)], .bool true]) ∧ Below w.heap.size w w' := by
  have := pon_any c s w hc hT
  rw [h] at this
  exact this
theorem pon_none (c : Nat → Int) (s : Int) (w : World) (hc : BdOk c) (hT : Tb w) (h : N.on c s = none) :
    Calls Tryz.prog 85 #[.agg (posC c), .int .i64 s] w fun e w' => e = .returned (.tuple #[.agg #[.int .i64 0, .int .i64 0, .int .u64 0], .bool false]) ∧ Below w.heap.size w w' := by
  have := pon_any c s w hc hT
  rw [h] at this
  exact this
namespace N
def pinner (c : Nat → Int) (s : Int) : Int := match on c s with | some x => x.2.1 | none => -1
def ones : BitVec 64 := 18446744073709551615#64
def line (c : Nat → Int) (s : Int) : BitVec 64 := match on c s with | some x => x.2.2 | none => if (K.there s && bit (S.all c) s.toNat) = true then ones else 0#64
end N
set_option maxRecDepth 100000 in
set_option maxHeartbeats 4000000 in
theorem pinner_any (c : Nat → Int) (s : Int) (w : World) (hc : BdOk c) (hT : Tb w) :
    Calls Tryz.prog 77 #[.agg (posC c), .int .i64 s] w fun e w' => e = .returned (.int .i64 (N.pinner c s)) ∧ Below w.heap.size w w' := by
  have Hc := Lib.hid hc
  have hb0 : Below w.heap.size w (w.alloc (.cells (posC c) 31)) := (Below.refl _ _).alloc (Nat.le_refl _) _
  have HT := Lib.hid (tb_below hT hb0)
  have hp := PosAt.new w c
  clear hT hc
  cases ho : N.on c s with
  | none =>
    have e := Lib.hid (show N.pinner c s = -1 by unfold N.pinner; rw [ho])
    have Ho := Lib.hid ho
    clear ho
    go_enter Tryz.func77, Tryz.ntmps77
    go_wp2_with (first
      | ((with_reducible refine wp_load_box rfl _ rfl ?_); refine ⟨_, _, rfl, (by assumption), ?_⟩)
      | (go_at_call 85; refine (pon_none c s _ Hc.out HT.out Ho.out).mono ?_; rintro e u ⟨rfl, hb⟩; replace hb0 := below_next hb0 hb; clear hb))
    go_ret
    exact ⟨ret_int e.out.symm, hb0.alloc hb0.size _⟩
  | some x =>
    obtain ⟨a, b, v⟩ := x
    have e := Lib.hid (show N.pinner c s = b by unfold N.pinner; rw [ho])
    have Ho := Lib.hid ho
    clear ho
    go_enter Tryz.func77, Tryz.ntmps77
    go_wp2_with (first
      | ((with_reducible refine wp_load_box rfl _ rfl ?_); refine ⟨_, _, rfl, (by assumption), ?_⟩)
      | (go_at_call 85; refine (pon_some c s a b v _ Hc.out HT.out Ho.out).mono ?_; rintro e u ⟨rfl, hb⟩; replace hb0 := below_next hb0 hb; clear hb))
    go_ret
    exact ⟨ret_int e.out.symm, hb0.alloc hb0.size _⟩
set_option maxRecDepth 100000 in
set_option maxHeartbeats 4000000 in
theorem pline_any (c : Nat → Int) (s : Int) (w : World) (hc : BdOk c) (hT : Tb w) :
    Calls Tryz.prog 27 #[.agg (posC c), .int .i64 s] w fun e w' => e = .returned (.int .u64 (U (N.line c s))) ∧ Below w.heap.size w w' := by
  have Hc := Lib.hid hc
  have hb0 : Below w.heap.size w (w.alloc (.cells (posC c) 31)) := (Below.refl _ _).alloc (Nat.le_refl _) _
  have HT := Lib.hid (tb_below hT hb0)
  have hp := PosAt.new w c
  clear hT hc
  cases ho : N.on c s with
  | some x =>
    obtain ⟨a, b, v⟩ := x
    have e := Lib.hid (show N.line c s = v by unfold N.line; rw [ho])
    have Ho := Lib.hid ho
    clear ho
    go_enter Tryz.func27, Tryz.ntmps27
    go_wp2_with (first
      | ((with_reducible refine wp_load_box rfl _ rfl ?_); refine ⟨_, _, rfl, (by assumption), ?_⟩)
      | (go_at_call 85; refine (pon_some c s a b v _ Hc.out HT.out Ho.out).mono ?_; rintro e u ⟨rfl, hb⟩; replace hb0 := below_next hb0 hb; clear hb))
    go_ret
    exact ⟨ret_int (by rw [e.out]), hb0.alloc hb0.size _⟩
  | none =>
    have hl : N.line c s = if (K.there s && bit (S.all c) s.toNat) = true then N.ones else 0#64 := by unfold N.line; rw [ho]
    have Ho := Lib.hid ho
    clear ho
    cases ht : K.there s
    · have e := Lib.hid (show N.line c s = 0#64 by rw [hl, ht]; rfl)
      have hs := there_out s ht
      clear hl ht
      rcases hs with hs | hs
      all_goals
        go_enter Tryz.func27, Tryz.ntmps27
        go_wp2_with (first
          | ((with_reducible refine wp_load_box rfl _ rfl ?_); refine ⟨_, _, rfl, (by assumption), ?_⟩)
          | (go_at_call 85; refine (pon_none c s _ Hc.out HT.out Ho.out).mono ?_; rintro e u ⟨rfl, hb⟩; replace hb0 := below_next hb0 hb; clear hb))
        go_ret
        exact ⟨ret_int (by rw [e.out]; rfl), hb0.alloc hb0.size _⟩
    · obtain ⟨n, rfl, hn, hm⟩ := there_nat s ht
      rw [Int.toNat_natCast, ht, Bool.true_and] at hl
      have hdiv : U (S.all c) / 2 ^ n = U (bShr (S.all c) n) := by have := bv_shr_nat (S.all c) n; rwa [Nat.min_eq_left (by omega)] at this
      have hsh : bit (bShr (S.all c) n) 0 = bit (S.all c) n := by rw [bit_shr, Nat.add_zero]
      have hd1 : decide ((n : Int) < 0) = false := by simp
      have hd2 : decide (64 ≤ (n : Int)) = false := by simp; omega
      clear hm ht
      cases hb : bit (S.all c) n
      · have e := Lib.hid (show N.line c n = 0#64 by rw [hl, hb]; rfl)
        have hq : (bv1 (bit (bShr (S.all c) n) 0) == 0) = true := by rw [hsh, hb]; rfl
        clear hl hsh hb
        go_enter Tryz.func27, Tryz.ntmps27
        go_wp2_with (first
          | ((with_reducible refine wp_load_box_g rfl _ rfl ?_); refine ⟨_, _, rfl, (by first | assumption | exact hp.alloc _), ?_⟩)
          | ((with_reducible refine wp_load_box rfl _ rfl ?_); refine ⟨_, _, rfl, (by assumption), ?_⟩)
          | (go_at_call 85; refine (pon_none c n _ Hc.out HT.out Ho.out).mono ?_; rintro e u ⟨rfl, hb⟩; replace hp := hp.below hb; replace hb0 := below_next hb0 hb; clear hb)
          | (go_at_call 57; refine (all_any c _ Hc.out).mono ?_; rintro e u2 ⟨rfl, hb2⟩; replace hb0 := below_next (hb0.alloc hb0.size _) hb2; clear hb2))
        go_ret
        exact ⟨ret_int (by rw [e.out]; rfl), hb0⟩
      · have e := Lib.hid (show N.line c n = N.ones by rw [hl, hb]; rfl)
        have hq : (bv1 (bit (bShr (S.all c) n) 0) == 0) = false := by rw [hsh, hb]; rfl
        clear hl hsh hb
        go_enter Tryz.func27, Tryz.ntmps27
        go_wp2_with (first
          | ((with_reducible refine wp_load_box_g rfl _ rfl ?_); refine ⟨_, _, rfl, (by first | assumption | exact hp.alloc _), ?_⟩)
          | ((with_reducible refine wp_load_box rfl _ rfl ?_); refine ⟨_, _, rfl, (by assumption), ?_⟩)
          | (go_at_call 85; refine (pon_none c n _ Hc.out HT.out Ho.out).mono ?_; rintro e u ⟨rfl, hb⟩; replace hp := hp.below hb; replace hb0 := below_next hb0 hb; clear hb)
          | (go_at_call 57; refine (all_any c _ Hc.out).mono ?_; rintro e u2 ⟨rfl, hb2⟩; replace hb0 := below_next (hb0.alloc hb0.size _) hb2; clear hb2))
        go_ret
        exact ⟨ret_int (by rw [e.out]; rfl), hb0⟩
end Go.Proofs.YtgkndhpolcnjbaaGreatDoor
namespace Go.Proofs.YtgkndhpolcnjbaaGreatDoor
open Go.RowKit Go.Sort
def B.has (b : BitVec 64) (s : Int) : Bool := U (bAnd b (B.one s)) != 0
set_option maxRecDepth 100000 in
set_option maxHeartbeats 1000000 in
theorem has_any (b : BitVec 64) (s : Int) (w : World) :
    Calls Tryz.prog 207 #[.int .u64 (U b), .int .i64 s] w fun e w' => e = .returned (.bool (B.has b s)) ∧ w = w' := by
  go_enter Tryz.func207, Tryz.ntmps207
  go_wp2_with (go_at_call 260; refine (one_any _ _).mono ?_; rintro e w' ⟨rfl, rfl⟩)
  go_ret
  exact ⟨rfl, rfl⟩
theorem has_bit (b : BitVec 64) (s : Nat) (hs : s < 64) : B.has b (s : Int) = bit b s := test_bit b s hs
theorem has_eq (b : BitVec 64) (s : Int) (v : Bool) (w : World) (h : B.has b s = v) :
    Calls Tryz.prog 207 #[.int .u64 (U b), .int .i64 s] w fun e w' => e = .returned (.bool v) ∧ w = w' := by
  rw [← h]; exact has_any b s w
namespace R
/-- The first direction from k on in which b is from a. -/
def towFrom (a b : Int) : Nat → Nat → Int
  | _, 0 => -1
  | k, n + 1 => if B.has (ray a k) b = true then (k : Int) else towFrom a b (k + 1) n
def towards (a b : Int) : Int := towFrom a b 0 8
def between (a b : Int) : BitVec 64 := if towards a b < 0 then 0#64 else bAnd (ray a (towards a b).toNat) (ray b (((towards a b).toNat + 4) % 8))
theorem tow_bd (a b : Int) : ∀ n k, towFrom a b k n = -1 ∨ ∃ j, k ≤ j ∧ j < k + n ∧ towFrom a b k n = (j : Int) ∧ B.has (ray a j) b = true
  | 0, _ => .inl rfl
  | n + 1, k => by
    rw [towFrom]
    split
    · rename_i h
      exact .inr ⟨k, by omega, by omega, rfl, h⟩
    · rcases tow_bd a b n (k + 1) with h | ⟨j, h1, h2, h3, h4⟩
      · exact .inl h
      · exact .inr ⟨j, by omega, by omega, h3, h4⟩
end R
set_option maxRecDepth 100000 in
set_option maxHeartbeats 1000000 in
theorem towards_any (a b : Int) (w : World) :
    Calls Tryz.prog 146 #[.int .i64 a, .int .i64 b] w fun e w' => e = .returned (.int .i64 (R.towards a b)) ∧ Below w.heap.size w w' := by
  go_enter Tryz.func146, Tryz.ntmps146
  go_wp2
  go_loopw [6] (fun i wr => ∃ k : Nat, k ≤ 8 ∧ i = .int .i64 (k : Int) ∧ R.towards a b = R.towFrom a b k (8 - k) ∧ Below w.heap.size w wr) (fun i _ => 8 - (intOf i).toNat)
  case atStart => exact ⟨0, by omega, rfl, rfl, Below.refl _ _⟩
  case round =>
    obtain ⟨k, hk, rfl, he, hbr⟩ := hrel
    have He := Lib.hid he
    clear he
    by_cases hlt : k < 8
    · have hst : R.towFrom a b k (8 - k) = if B.has (R.ray a k) b = true then (k : Int) else R.towFrom a b (k + 1) (8 - (k + 1)) := by
        rw [show 8 - k = (8 - (k + 1)) + 1 by omega, R.towFrom]
      cases hh : B.has (R.ray a k) b
      · rw [hh, if_neg (by simp)] at hst
        have Hst := Lib.hid hst
        have Hh := Lib.hid hh
        clear hst hh
        go_wp2_with (first
          | (go_at_call 147; refine (ray_any a k _ hlt).mono ?_; rintro e u ⟨rfl, hb⟩; replace hbr := below_next hbr hb; clear hb)
          | (go_at_call 207; refine (has_eq _ b false _ Hh.out).mono ?_; rintro e w' ⟨rfl, rfl⟩))
        exact ⟨⟨k + 1, by omega, by go_num, by rw [He.out, Hst.out], hbr⟩, by simp [intOf]; omega⟩
      · rw [hh, if_pos rfl] at hst
        have Hst := Lib.hid hst
        have Hh := Lib.hid hh
        clear hst hh
        go_wp2_with (first
          | (go_at_call 147; refine (ray_any a k _ hlt).mono ?_; rintro e u ⟨rfl, hb⟩; replace hbr := below_next hbr hb; clear hb)
          | (go_at_call 207; refine (has_eq _ b true _ Hh.out).mono ?_; rintro e w' ⟨rfl, rfl⟩))
        go_ret
        exact ⟨ret_int (by rw [He.out, Hst.out]), hbr⟩
    · obtain rfl : k = 8 := by omega
      go_wp2
      go_ret
      exact ⟨ret_int (by rw [He.out]; rfl), hbr⟩
set_option maxRecDepth 100000 in
set_option maxHeartbeats 1000000 in
theorem between_dir (a b : Int) (d f : Nat) (w : World) (hd : d < 8) (hf : f < 8) (ht : R.towards a b = (d : Int)) (he : R.between a b = bAnd (R.ray a d) (R.ray b f)) (hm : IntKind.i64.wrap ((d : Int) + 4) = (d : Int) + 4 ∧ ((d : Int) + 4).tmod 8 = (f : Int)) :
    Calls Tryz.prog 84 #[.int .i64 a, .int .i64 b] w fun e w' => e = .returned (.int .u64 (U (R.between a b))) ∧ Below w.heap.size w w' := by
  have Ht := Lib.hid ht
  have He := Lib.hid he
  obtain ⟨hm1, hm2⟩ := hm
  have hm3 : ((d : Int) + 4) % 8 = (f : Int) := by rw [← hm2, Int.tmod_eq_emod_of_nonneg (by omega)]
  clear ht he hm1
  go_enter Tryz.func84, Tryz.ntmps84
  go_wp2_with fail
  refine (towards_any a b _).mono ?_
  rw [Ht.out]
  rintro e1 u ⟨rfl, hb⟩
  go_wp2_with fail
  refine (ray_any a d _ hd).mono ?_
  rintro e1 u2 ⟨rfl, hb2⟩
  replace hb := below_next hb hb2
  go_wp2_with fail
  refine (ray_any b f _ hf).mono ?_
  rintro e1 u3 ⟨rfl, hb3⟩
  replace hb := below_next hb hb3
  go_wp2
  go_ret
  exact ⟨ret_int (by rw [He.out]), hb⟩
set_option maxRecDepth 100000 in
set_option maxHeartbeats 1000000 in
theorem between_any (a b : Int) (w : World) :
    Calls Tryz.prog 84 #[.int .i64 a, .int .i64 b] w fun e w' => e = .returned (.int .u64 (U (R.between a b))) ∧ Below w.heap.size w w' := by
  rcases R.tow_bd a b 8 0 with h | ⟨d, _, hd, h, _⟩
  · have ht : R.towards a b = -1 := h
    have e := Lib.hid (show R.between a b = 0#64 by unfold R.between; rw [ht]; rfl)
    have Ht := Lib.hid ht
    clear h ht
    go_enter Tryz.func84, Tryz.ntmps84
    go_wp2_with (go_at_call 146; refine (towards_any a b _).mono ?_; rw [Ht.out]; rintro e u ⟨rfl, hb⟩)
    go_ret
    exact ⟨ret_int (by rw [e.out]; rfl), hb⟩
  · have ht : R.towards a b = (d : Int) := h
    have hd : d < 8 := by omega
    have e := Lib.hid (show R.between a b = bAnd (R.ray a d) (R.ray b ((d + 4) % 8)) by unfold R.between; rw [ht, if_neg (by omega)]; rfl)
    have Ht := Lib.hid ht
    clear h ht
    rcases (show d = 0 ∨ d = 1 ∨ d = 2 ∨ d = 3 ∨ d = 4 ∨ d = 5 ∨ d = 6 ∨ d = 7 by omega) with rfl | rfl | rfl | rfl | rfl | rfl | rfl | rfl
    · exact between_dir a b 0 4 w (by decide) (by decide) Ht.out e.out (by decide)
    · exact between_dir a b 1 5 w (by decide) (by decide) Ht.out e.out (by decide)
    · exact between_dir a b 2 6 w (by decide) (by decide) Ht.out e.out (by decide)
    · exact between_dir a b 3 7 w (by decide) (by decide) Ht.out e.out (by decide)
    · exact between_dir a b 4 0 w (by decide) (by decide) Ht.out e.out (by decide)
    · exact between_dir a b 5 1 w (by decide) (by decide) Ht.out e.out (by decide)
    · exact between_dir a b 6 2 w (by decide) (by decide) Ht.out e.out (by decide)
    · exact between_dir a b 7 3 w (by decide) (by decide) Ht.out e.out (by decide)
end Go.Proofs.YtgkndhpolcnjbaaGreatDoor
namespace Go.Proofs.YtgkndhpolcnjbaaGreatDoor
open Go.RowKit Go.Sort
namespace N
def slider (k : Int) : Bool := k == 4 || (k == 3 || k == 5)
def blocks (c : Nat → Int) (color : Int) : BitVec 64 :=
  if color ≤ 1 ∧ 0 ≤ S.find c color 6 then
    (let b := K.by c (S.find c color 6) (K.oc color)
     if B.count b = 0 then ones else if B.count b = 1 then
       (if slider (P.kind (c (1 + (B.first b).toNat))) = true then bOr b (R.between (S.find c color 6) (B.first b)) else b) else 0#64)
  else 0#64
end N
set_option maxRecDepth 100000 in
set_option maxHeartbeats 4000000 in
theorem pblocks_any (c : Nat → Int) (color : Int) (w : World) (hc : BdOk c) (hT : Tb w) :
    Calls Tryz.prog 26 #[.agg (posC c), .int .u8 color] w fun e w' => e = .returned (.int .u64 (U (N.blocks c color))) ∧ Below w.heap.size w w' := by
  have Hc := Lib.hid hc
  have HT := Lib.hid (fun W (hb : Below w.heap.size w W) => tb_below hT hb)
  have hfb := D.find_bd c color 6
  rw [← find_eq c color hc] at hfb
  clear hT hc
  have hb0 : Below w.heap.size w (w.alloc (.cells (posC c) 31)) := (Below.refl _ _).alloc (Nat.le_refl _) _
  have hp := PosAt.new w c
  by_cases h1 : color ≤ 1
  · rcases hfb with hf | ⟨k, hk, hf⟩
    · have e := Lib.hid (show N.blocks c color = 0#64 by unfold N.blocks; rw [hf, if_neg (by simp)])
      have Hf := Lib.hid hf
      clear hf
      go_enter Tryz.func26, Tryz.ntmps26
      go_wp2_with (first
        | ((with_reducible refine wp_load_box rfl _ rfl ?_); refine ⟨_, _, rfl, (by assumption), ?_⟩)
        | (go_at_call 80; refine (find_any c _ _ _ Hc.out (HT.out _ hb0)).mono ?_; rw [Hf.out]; rintro e u ⟨rfl, hb⟩; replace hp := hp.below hb; replace hb0 := below_next hb0 hb; clear hb))
      go_ret
      exact ⟨ret_int (by rw [e.out]; rfl), hb0⟩
    · obtain ⟨b, hbv⟩ : ∃ b, K.by c (k : Int) (K.oc color) = b := ⟨_, rfl⟩
      have hbl : N.blocks c color = if B.count b = 0 then N.ones else if B.count b = 1 then (if N.slider (P.kind (c (1 + (B.first b).toNat))) = true then bOr b (R.between k (B.first b)) else b) else 0#64 := by
        unfold N.blocks; rw [hf, if_pos ⟨h1, by omega⟩, hbv]
      have Hf := Lib.hid hf
      have bv := Lib.hid (fun W (hT : Tb W) => by_val c k (K.oc color) b W Hc.out hT hbv)
      unfold K.oc at bv
      clear hf hbv
      cases c0 : ((B.count b : Int) == 0)
      · cases c1 : ((B.count b : Int) == 1)
        · have e := Lib.hid (show N.blocks c color = 0#64 by rw [hbl, if_neg (by simp at c0; omega), if_neg (by simp at c1; omega)])
          clear hbl
          go_enter Tryz.func26, Tryz.ntmps26
          go_wp2_with (first
            | ((with_reducible refine wp_load_box rfl _ rfl ?_); refine ⟨_, _, rfl, (by assumption), ?_⟩)
            | (go_at_call 80; refine (find_any c _ _ _ Hc.out (HT.out _ hb0)).mono ?_; rw [Hf.out]; rintro e u ⟨rfl, hb⟩; replace hp := hp.below hb; replace hb0 := below_next hb0 hb; clear hb)
            | (go_at_call 81; refine (bv.out _ (HT.out _ hb0)).mono ?_; rintro e u ⟨rfl, hb⟩; replace hp := hp.below hb; replace hb0 := below_next hb0 hb; clear hb)
            | (go_at_call 82; refine (count_any _ _).mono ?_; rintro e w' ⟨rfl, rfl⟩))
          go_ret
          exact ⟨ret_int (by rw [e.out]; rfl), hb0⟩
        · obtain ⟨s, hs, rfl⟩ := (count_one b).1 (by simp at c1; omega)
          have hfo := first_one s hs
          rw [if_neg (by simp at c0; omega), if_pos (by simp at c1; omega), hfo, Int.toNat_natCast] at hbl
          obtain ⟨x0, x1⟩ := Hc.out s hs
          have Hfo := Lib.hid hfo
          clear hfo
          have hsl : N.slider (P.kind (c (1 + s))) = (P.kind (c (1 + s)) == 4 || (P.kind (c (1 + s)) == 3 || P.kind (c (1 + s)) == 5)) := rfl
          cases s4 : (P.kind (c (1 + s)) == 4) <;> cases s3 : (P.kind (c (1 + s)) == 3) <;> cases s5 : (P.kind (c (1 + s)) == 5)
          all_goals
            rw [s4, s3, s5] at hsl
            rw [hsl] at hbl
            have e := Lib.hid hbl
            clear hbl hsl
            go_enter Tryz.func26, Tryz.ntmps26
            go_wp2_with (first
              | ((with_reducible refine wp_load_box rfl _ rfl ?_); refine ⟨_, _, rfl, (by assumption), ?_⟩)
              | (go_at_call 80; refine (find_any c _ _ _ Hc.out (HT.out _ hb0)).mono ?_; rw [Hf.out]; rintro e u ⟨rfl, hb⟩; replace hp := hp.below hb; replace hb0 := below_next hb0 hb; clear hb)
              | (go_at_call 81; refine (bv.out _ (HT.out _ hb0)).mono ?_; rintro e u ⟨rfl, hb⟩; replace hp := hp.below hb; replace hb0 := below_next hb0 hb; clear hb; have hcl := hp.bd hs)
              | (go_at_call 82; refine (count_any _ _).mono ?_; rintro e w' ⟨rfl, rfl⟩)
              | (go_at_call 83; refine (first_any _ _ (HT.out _ hb0)).mono ?_; rw [Hfo.out]; rintro e w' ⟨rfl, rfl⟩)
              | (go_at_call 70; refine (kind_any _ _ x0 x1).mono ?_; rintro e w' ⟨rfl, rfl⟩)
              | (go_at_call 84; refine (between_any _ _ _).mono ?_; rintro e u ⟨rfl, hb⟩; replace hb0 := below_next hb0 hb; clear hb))
            go_ret
            exact ⟨ret_int (by rw [e.out]; rfl), hb0⟩
      · have e := Lib.hid (show N.blocks c color = N.ones by rw [hbl, if_pos (by simp at c0; omega)])
        clear hbl
        go_enter Tryz.func26, Tryz.ntmps26
        go_wp2_with (first
          | ((with_reducible refine wp_load_box rfl _ rfl ?_); refine ⟨_, _, rfl, (by assumption), ?_⟩)
          | (go_at_call 80; refine (find_any c _ _ _ Hc.out (HT.out _ hb0)).mono ?_; rw [Hf.out]; rintro e u ⟨rfl, hb⟩; replace hp := hp.below hb; replace hb0 := below_next hb0 hb; clear hb)
          | (go_at_call 81; refine (bv.out _ (HT.out _ hb0)).mono ?_; rintro e u ⟨rfl, hb⟩; replace hp := hp.below hb; replace hb0 := below_next hb0 hb; clear hb)
          | (go_at_call 82; refine (count_any _ _).mono ?_; rintro e w' ⟨rfl, rfl⟩))
        go_ret
        exact ⟨ret_int (by rw [e.out]; rfl), hb0⟩
  · have e := Lib.hid (show N.blocks c color = 0#64 by unfold N.blocks; rw [if_neg (fun h => h1 h.1)])
    go_enter Tryz.func26, Tryz.ntmps26
    go_wp2
    go_ret
    exact ⟨ret_int (by rw [e.out]; rfl), hb0⟩
end Go.Proofs.YtgkndhpolcnjbaaGreatDoor
