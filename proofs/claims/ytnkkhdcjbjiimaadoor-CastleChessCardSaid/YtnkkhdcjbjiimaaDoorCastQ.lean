/- Castlings, in plain Lean: what holds of each. -/
import Derived.Test.YtnkkhdcjbjiimaaDoorCastGb
import Derived.Test.YtnkkhdcjbjiimaaDoorCastS
namespace Go.Proofs.YtnkkhdcjbjiimaaDoor
open Go.RowKit Go.Sort

namespace T
/-- What holds of a castling of a king on k to a rook on s, on side d. -/
structure Is (c : Nat → Int) (t d k s : Nat) : Prop where
  t2 : t < 2
  d2 : d < 2
  turn : c 78 = (t : Int)
  khome : 56 * t ≤ k ∧ k ≤ 56 * t + 7
  shome : 56 * t ≤ s ∧ s ≤ 56 * t + 7
  king : c (1 + k) = 8 * (t : Int) + 6
  rook : c (1 + s) = 8 * (t : Int) + 4
  ne : s ≠ k
  dir : k < s ↔ d = 0
  right : c (rightAt t d) = (s : Int) - 56 * t
theorem cand_is (c : Nat → Int) (t d k s : Nat) (ht : t < 2) (hd : d < 2) (hct : c 78 = (t : Int)) (hk : 56 * t ≤ k ∧ k ≤ 56 * t + 7) (hking : c (1 + k) = 8 * (t : Int) + 6) (h : cand c t d k = some s) : Is c t d k s := by
  unfold cand at h
  by_cases hf : c (rightAt t d) < 0 ∨ 7 < c (rightAt t d)
  · rw [if_pos hf] at h; cases h
  · rw [if_neg hf] at h
    split at h
    · rename_i hr
      cases h
      rw [Bool.and_eq_true] at hr
      have hr := hr.1
      unfold rookOk at hr
      simp only [Bool.and_eq_true, beq_iff_eq, bne_iff_ne] at hr
      obtain ⟨h1, h2, h3⟩ := hr
      have hrk : ((rk c t d : Nat) : Int) = 56 * t + c (rightAt t d) := by unfold rk; omega
      refine ⟨ht, hd, hct, hk, by omega, hking, h1, fun e => h3 (by rw [e]), ?_, by omega⟩
      have h2' : (k < rk c t d) = (d = 0) := by
        have := congrArg (fun b => b = true) h2
        simpa using this
      rw [h2']
    · cases h
theorem clist_mem (c : Nat → Int) (x : Nat × Nat) (hc : PosOk c) (h : x ∈ clist c) : ∃ t d, Is c t d x.1 x.2 := by
  unfold clist at h
  split at h
  · rename_i hh
    obtain ⟨⟨h0, h1⟩, hv, hf, hr⟩ := hh
    obtain ⟨t, ht⟩ : ∃ t : Nat, c 78 = (t : Int) := ⟨(c 78).toNat, by omega⟩
    rw [ht] at h hf hr h1
    rw [Int.toNat_natCast] at h hr
    have hcb := pos_bd hc
    rw [find_eq c (t : Int) hcb] at h hf hr
    obtain ⟨hi, hk64⟩ := find_is c (t : Int) hf
    obtain ⟨k, hk⟩ : ∃ k : Nat, D.find c (t : Int) 6 = (k : Int) := ⟨(D.find c (t : Int) 6).toNat, by omega⟩
    rw [hk, Int.toNat_natCast] at h hr hi hk64
    rw [is_val hcb k hk64 _ _ (by omega) (by omega), beq_iff_eq] at hi
    obtain ⟨d, hd, hx⟩ := List.mem_filterMap.1 h
    rw [Option.map_eq_some_iff] at hx
    obtain ⟨s, hs, rfl⟩ := hx
    exact ⟨t, d, cand_is c t d k s (by omega) (by simp at hd; omega) ht (by omega) hi hs⟩
  · cases h
theorem filterMap_two {β : Type} (f : Nat → Option β) : ([1, 0].filterMap f).length ≤ 2 := List.length_filterMap_le f [1, 0]
theorem clist_len (c : Nat → Int) : (clist c).length ≤ 2 := by
  unfold clist
  split
  · exact filterMap_two _
  · simp
theorem side_is {c : Nat → Int} {t d k s : Nat} (h : Is c t d k s) : side c (k : Int) (s : Int) true = (d : Int) := by
  have h1 := h.t2
  have h2 := h.khome
  have h3 := h.shome
  have h4 := h.ne
  have h5 := h.dir
  have h6 := h.d2
  unfold side
  rw [h.turn, Int.toNat_natCast]
  unfold inHome
  rw [if_pos ⟨by omega, rfl, by omega, by simp; omega, by simp; omega⟩]
  by_cases hl : k < s
  · rw [if_pos (by omega), h5.1 hl]; rfl
  · have : d = 1 := by
      have := fun e => hl (h5.2 e)
      omega
    rw [if_neg (by omega), this]; rfl
end T

end Go.Proofs.YtnkkhdcjbjiimaaDoor
