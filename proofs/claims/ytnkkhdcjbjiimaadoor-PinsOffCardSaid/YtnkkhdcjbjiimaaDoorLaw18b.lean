/- Pins: of one man there is one pin; both lists tell the same. No walk. -/
import Derived.Test.YtnkkhdcjbjiimaaDoorRef18c
namespace Go.Proofs.YtnkkhdcjbjiimaaDoor
open Go.RowKit

theorem inRay_one (k d e m : Nat) (hd : d < 8) (he : e < 8) (h1 : inRay k d m = true) (h2 : inRay k e m = true) : d = e := by
  rcases (show d = 0 ∨ d = 1 ∨ d = 2 ∨ d = 3 ∨ d = 4 ∨ d = 5 ∨ d = 6 ∨ d = 7 by omega) with rfl | rfl | rfl | rfl | rfl | rfl | rfl | rfl <;> rcases (show e = 0 ∨ e = 1 ∨ e = 2 ∨ e = 3 ∨ e = 4 ∨ e = 5 ∨ e = 6 ∨ e = 7 by omega) with rfl | rfl | rfl | rfl | rfl | rfl | rfl | rfl <;> first | rfl | (exfalso; simp [inRay] at h1 h2; omega)
namespace N
theorem res_ray (c : Nat → Int) (color : Int) (k d : Nat) (x : Int × Int × BitVec 64) (hc : BdOk c) (hk : k < 64) (hd : d < 8) (h : res c color k d = some x) : ∃ m : Nat, m < 64 ∧ x.1 = (m : Int) ∧ inRay k d m = true := by
  have hx : x.1 = B.first (fst c k d) ∧ pinB c color k d = true := by
    unfold res at h
    split at h
    · rename_i hp; cases h; exact ⟨rfl, hp⟩
    · cases h
  rcases ray_ways c k d hc hk hd with ⟨pre, m, pre2, s, rest2, hs, _, _, _, _, hm, _, hf, _⟩ | ⟨pre, m, rest, hs, _, _, _, hm, hf, _⟩ | ⟨_, hf⟩
  · exact ⟨m, hm, by rw [hx.1, hf, first_one m hm], ((rl_spec k d hk hd).1 m hm).1 (by rw [hs]; simp)⟩
  · exact ⟨m, hm, by rw [hx.1, hf, first_one m hm], ((rl_spec k d hk hd).1 m hm).1 (by rw [hs]; simp)⟩
  · have := hx.2
    unfold pinB at this
    rw [hf] at this
    have e : bAnd 0#64 (S.of c color 0) = 0#64 := by unfold bAnd; simp
    rw [e] at this
    simp [U] at this
theorem pins_one (c : Nat → Int) (color : Int) (hc : BdOk c) (x y : Int × Int × BitVec 64) (hx : x ∈ pins c color) (hy : y ∈ pins c color) (h : x.1 = y.1) : x = y := by
  unfold pins at hx hy
  rcases D.find_bd c color 6 with hf | ⟨k, hk, hf⟩
  · rw [find_eq c color hc, hf, if_neg (by simp)] at hx; cases hx
  · rw [find_eq c color hc, hf] at hx hy
    split at hx
    · rename_i hif
      rw [if_pos hif] at hy
      unfold upTo at hx hy
      rw [List.mem_filterMap] at hx hy
      obtain ⟨d, hd, e1⟩ := hx
      obtain ⟨e, he, e2⟩ := hy
      have hd8 := List.mem_range.1 hd
      have he8 := List.mem_range.1 he
      obtain ⟨m, _, hm, hr⟩ := res_ray c color k d x hc hk hd8 e1
      obtain ⟨n, _, hn, hq⟩ := res_ray c color k e y hc hk he8 e2
      have hmn : m = n := by omega
      subst hmn
      have := inRay_one k d e m hd8 he8 hr hq
      subst this
      rw [e1] at e2
      exact Option.some.inj e2
    · cases hx
theorem at_same (l r : List (Int × Int × BitVec 64)) (s : Int) (hm : ∀ x, x ∈ l ↔ x ∈ r) (h1 : ∀ x ∈ l, ∀ y ∈ l, x.1 = y.1 → x = y) : at' l s = at' r s := by
  unfold at'
  cases ha : l.find? fun x => x.1 == s with
  | none =>
    rw [List.find?_eq_none] at ha
    exact (List.find?_eq_none.2 fun x hx => ha x ((hm x).2 hx)).symm
  | some x =>
    have hx := List.mem_of_find?_eq_some ha
    have hs := List.find?_some ha
    cases hb : r.find? fun x => x.1 == s with
    | none =>
      rw [List.find?_eq_none] at hb
      exact absurd hs (hb x ((hm x).1 hx))
    | some y =>
      have hy := (hm y).2 (List.mem_of_find?_eq_some hb)
      have hs2 := List.find?_some hb
      rw [h1 x hx y hy (by simp at hs hs2; rw [hs, hs2])]
theorem on_eq (c : Nat → Int) (s : Int) (hc : BdOk c) : on c s = don c s := by
  unfold on don
  rw [at_same _ _ s (fun x => mem_both c 0 hc x) (fun x hx y hy => pins_one c 0 hc x y hx hy), at_same _ _ s (fun x => mem_both c 1 hc x) (fun x hx y hy => pins_one c 1 hc x y hx hy)]
end N

end Go.Proofs.YtnkkhdcjbjiimaaDoor
