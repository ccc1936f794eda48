/- The program's rays.towards, Between; bits.Has. -/
import Derived.Test.YtnkkhdcjbjiimaaDoorCountW
import Derived.Test.YtnkkhdcjbjiimaaDoorPinsAB
namespace Go.Proofs.YtnkkhdcjbjiimaaDoor
open Go.RowKit Go.Sort

def B.has (b : BitVec 64) (s : Int) : Bool := U (bAnd b (B.one s)) != 0
set_option maxRecDepth 100000 in
set_option maxHeartbeats 1000000 in
theorem has_any (b : BitVec 64) (s : Int) (w : World) :
    Calls Tryd.prog 99 #[.int .u64 (U b), .int .i64 s] w fun e w' => e = .returned (.bool (B.has b s)) ∧ w = w' := by
  go_enter Tryd.func99, Tryd.ntmps99
  go_wp2_with (go_at_call 112; refine (one_any _ _).mono ?_; rintro e w' ⟨rfl, rfl⟩)
  go_ret
  exact ⟨rfl, rfl⟩
theorem has_bit (b : BitVec 64) (s : Nat) (hs : s < 64) : B.has b (s : Int) = bit b s := test_bit b s hs
theorem has_eq (b : BitVec 64) (s : Int) (v : Bool) (w : World) (h : B.has b s = v) :
    Calls Tryd.prog 99 #[.int .u64 (U b), .int .i64 s] w fun e w' => e = .returned (.bool v) ∧ w = w' := by
  rw [← h]; exact has_any b s w

namespace R
/-- The first direction from k on in which b is from a. -/
def towFrom (a b : Int) : Nat → Nat → Int
  | _, 0 => -1
  | k, n + 1 => if B.has (ray a k) b = true then (k : Int) else towFrom a b (k + 1) n
def towards (a b : Int) : Int := towFrom a b 0 8
def between (a b : Int) : BitVec 64 := if towards a b < 0 then 0#64 else bAnd (ray a (towards a b).toNat) (ray b (((towards a b).toNat + 4) % 8))
theorem tow_bd (a b : Int) : ∀ n k, towFrom a b k n = -1 ∨ ∃ j, k ≤ j ∧ j < k + n ∧ towFrom a b k n = (j : Int) ∧ B.has (ray a j) b = true
  | 0, _ => .inl rfl
  | n + 1, k => by
    rw [towFrom]
    split
    · rename_i h
      exact .inr ⟨k, by omega, by omega, rfl, h⟩
    · rcases tow_bd a b n (k + 1) with h | ⟨j, h1, h2, h3, h4⟩
      · exact .inl h
      · exact .inr ⟨j, by omega, by omega, h3, h4⟩
end R

set_option maxRecDepth 100000 in
set_option maxHeartbeats 1000000 in
theorem towards_any (a b : Int) (w : World) :
    Calls Tryd.prog 81 #[.int .i64 a, .int .i64 b] w fun e w' => e = .returned (.int .i64 (R.towards a b)) ∧ Below w.heap.size w w' := by
  go_enter Tryd.func81, Tryd.ntmps81
  go_wp2
  go_loopw [6] (fun i wr => ∃ k : Nat, k ≤ 8 ∧ i = .int .i64 (k : Int) ∧ R.towards a b = R.towFrom a b k (8 - k) ∧ Below w.heap.size w wr) (fun i _ => 8 - (intOf i).toNat)
  case atStart => exact ⟨0, by omega, rfl, rfl, Below.refl _ _⟩
  case round =>
    obtain ⟨k, hk, rfl, he, hbr⟩ := hrel
    have He := Lib.hid he
    clear he
    by_cases hlt : k < 8
    · have hst : R.towFrom a b k (8 - k) = if B.has (R.ray a k) b = true then (k : Int) else R.towFrom a b (k + 1) (8 - (k + 1)) := by
        rw [show 8 - k = (8 - (k + 1)) + 1 by omega, R.towFrom]
      cases hh : B.has (R.ray a k) b
      · rw [hh, if_neg (by simp)] at hst
        have Hst := Lib.hid hst
        have Hh := Lib.hid hh
        clear hst hh
        go_wp2_with (first
          | (go_at_call 82; refine (ray_any a k _ hlt).mono ?_; rintro e u ⟨rfl, hb⟩; replace hbr := below_next hbr hb; clear hb)
          | (go_at_call 99; refine (has_eq _ b false _ Hh.out).mono ?_; rintro e w' ⟨rfl, rfl⟩))
        exact ⟨⟨k + 1, by omega, by go_num, by rw [He.out, Hst.out], hbr⟩, by simp [intOf]; omega⟩
      · rw [hh, if_pos rfl] at hst
        have Hst := Lib.hid hst
        have Hh := Lib.hid hh
        clear hst hh
        go_wp2_with (first
          | (go_at_call 82; refine (ray_any a k _ hlt).mono ?_; rintro e u ⟨rfl, hb⟩; replace hbr := below_next hbr hb; clear hb)
          | (go_at_call 99; refine (has_eq _ b true _ Hh.out).mono ?_; rintro e w' ⟨rfl, rfl⟩))
        go_ret
        exact ⟨ret_int (by rw [He.out, Hst.out]), hbr⟩
    · obtain rfl : k = 8 := by omega
      go_wp2
      go_ret
      exact ⟨ret_int (by rw [He.out]; rfl), hbr⟩

set_option maxRecDepth 100000 in
set_option maxHeartbeats 1000000 in
theorem between_dir (a b : Int) (d f : Nat) (w : World) (hd : d < 8) (hf : f < 8) (ht : R.towards a b = (d : Int)) (he : R.between a b = bAnd (R.ray a d) (R.ray b f)) (hm : IntKind.i64.wrap ((d : Int) + 4) = (d : Int) + 4 ∧ ((d : Int) + 4).tmod 8 = (f : Int)) :
    Calls Tryd.prog 56 #[.int .i64 a, .int .i64 b] w fun e w' => e = .returned (.int .u64 (U (R.between a b))) ∧ Below w.heap.size w w' := by
  have Ht := Lib.hid ht
  have He := Lib.hid he
  obtain ⟨hm1, hm2⟩ := hm
  have hm3 : ((d : Int) + 4) % 8 = (f : Int) := by rw [← hm2, Int.tmod_eq_emod_of_nonneg (by omega)]
  clear ht he hm1
  go_enter Tryd.func56, Tryd.ntmps56
  go_wp2_with fail
  refine (towards_any a b _).mono ?_
  rw [Ht.out]
  rintro e1 u ⟨rfl, hb⟩
  go_wp2_with fail
  refine (ray_any a d _ hd).mono ?_
  rintro e1 u2 ⟨rfl, hb2⟩
  replace hb := below_next hb hb2
  go_wp2_with fail
  refine (ray_any b f _ hf).mono ?_
  rintro e1 u3 ⟨rfl, hb3⟩
  replace hb := below_next hb hb3
  go_wp2
  go_ret
  exact ⟨ret_int (by rw [He.out]), hb⟩

set_option maxRecDepth 100000 in
set_option maxHeartbeats 1000000 in
theorem between_any (a b : Int) (w : World) :
    Calls Tryd.prog 56 #[.int .i64 a, .int .i64 b] w fun e w' => e = .returned (.int .u64 (U (R.between a b))) ∧ Below w.heap.size w w' := by
  rcases R.tow_bd a b 8 0 with h | ⟨d, _, hd, h, _⟩
  · have ht : R.towards a b = -1 := h
    have e := Lib.hid (show R.between a b = 0#64 by unfold R.between; rw [ht]; rfl)
    have Ht := Lib.hid ht
    clear h ht
    go_enter Tryd.func56, Tryd.ntmps56
    go_wp2_with (go_at_call 81; refine (towards_any a b _).mono ?_; rw [Ht.out]; rintro e u ⟨rfl, hb⟩)
    go_ret
    exact ⟨ret_int (by rw [e.out]; rfl), hb⟩
  · have ht : R.towards a b = (d : Int) := h
    have hd : d < 8 := by omega
    have e := Lib.hid (show R.between a b = bAnd (R.ray a d) (R.ray b ((d + 4) % 8)) by unfold R.between; rw [ht, if_neg (by omega)]; rfl)
    have Ht := Lib.hid ht
    clear h ht
    rcases (show d = 0 ∨ d = 1 ∨ d = 2 ∨ d = 3 ∨ d = 4 ∨ d = 5 ∨ d = 6 ∨ d = 7 by omega) with rfl | rfl | rfl | rfl | rfl | rfl | rfl | rfl
    · exact between_dir a b 0 4 w (by decide) (by decide) Ht.out e.out (by decide)
    · exact between_dir a b 1 5 w (by decide) (by decide) Ht.out e.out (by decide)
    · exact between_dir a b 2 6 w (by decide) (by decide) Ht.out e.out (by decide)
    · exact between_dir a b 3 7 w (by decide) (by decide) Ht.out e.out (by decide)
    · exact between_dir a b 4 0 w (by decide) (by decide) Ht.out e.out (by decide)
    · exact between_dir a b 5 1 w (by decide) (by decide) Ht.out e.out (by decide)
    · exact between_dir a b 6 2 w (by decide) (by decide) Ht.out e.out (by decide)
    · exact between_dir a b 7 3 w (by decide) (by decide) Ht.out e.out (by decide)

end Go.Proofs.YtnkkhdcjbjiimaaDoor
