/- The document's answer of layer 18: between, at squares of one line. -/
import Derived.Test.YtnkkhdcjbjiimaaDoorRef18d
namespace Go.Proofs.YtnkkhdcjbjiimaaDoor
open Go.RowKit Go.Sort

namespace N
def betw (s a b : Nat) : Bool := stepIs s a (D.sign ((b : Int) / 8 - (a : Int) / 8)) (D.sign ((b : Int) % 8 - (a : Int) % 8)) 1 (D.dist a b - 1)
theorem stepIs_iff (s a : Nat) (u v : Int) : ∀ n k, stepIs s a u v k n = true ↔ ∃ i, k ≤ i ∧ i < k + n ∧ (s : Int) = 8 * ((a : Int) / 8 + (i : Int) * u) + (a : Int) % 8 + (i : Int) * v
  | 0, k => by simp [stepIs]; intro i h1 h2; omega
  | n + 1, k => by
    rw [stepIs, Bool.or_eq_true, beq_iff_eq, stepIs_iff s a u v n (k + 1)]
    constructor
    · rintro (h | ⟨i, h1, h2, h3⟩)
      · exact ⟨k, Nat.le_refl _, by omega, h⟩
      · exact ⟨i, by omega, by omega, h3⟩
    · rintro ⟨i, h1, h2, h3⟩
      by_cases e : i = k
      · left; rw [e] at h3; exact h3
      · right; exact ⟨i, by omega, by omega, h3⟩
end N
set_option maxHeartbeats 2000000 in
theorem line_cases (u v : Int) (n : Nat) (hn : n = (max (D.abs u) (D.abs v)).toNat) (h : ((u == 0) != (D.abs v == 0) || (D.abs u == D.abs v && decide (0 < D.abs v))) = true) :
    1 ≤ n ∧ u = (n : Int) * D.sign u ∧ v = (n : Int) * D.sign v ∧
    ((u = n ∧ v = 0 ∧ D.sign u = 1 ∧ D.sign v = 0) ∨ (u = n ∧ v = n ∧ D.sign u = 1 ∧ D.sign v = 1) ∨ (u = n ∧ v = -n ∧ D.sign u = 1 ∧ D.sign v = -1) ∨ (u = 0 ∧ v = n ∧ D.sign u = 0 ∧ D.sign v = 1) ∨ (u = 0 ∧ v = -n ∧ D.sign u = 0 ∧ D.sign v = -1) ∨ (u = -n ∧ v = 0 ∧ D.sign u = -1 ∧ D.sign v = 0) ∨ (u = -n ∧ v = n ∧ D.sign u = -1 ∧ D.sign v = 1) ∨ (u = -n ∧ v = -n ∧ D.sign u = -1 ∧ D.sign v = -1)) := by
  have su : (u < 0 ∧ D.sign u = -1 ∧ D.abs u = -u) ∨ (u = 0 ∧ D.sign u = 0 ∧ D.abs u = 0) ∨ (0 < u ∧ D.sign u = 1 ∧ D.abs u = u) := by
    unfold D.sign D.abs
    rcases Int.lt_trichotomy u 0 with h | h | h
    · left; rw [if_pos h, if_pos h]; omega
    · right; left; subst h; decide
    · right; right; rw [if_neg (by omega), if_pos h, if_neg (by omega)]; omega
  have sv : (v < 0 ∧ D.sign v = -1 ∧ D.abs v = -v) ∨ (v = 0 ∧ D.sign v = 0 ∧ D.abs v = 0) ∨ (0 < v ∧ D.sign v = 1 ∧ D.abs v = v) := by
    unfold D.sign D.abs
    rcases Int.lt_trichotomy v 0 with h | h | h
    · left; rw [if_pos h, if_pos h]; omega
    · right; left; subst h; decide
    · right; right; rw [if_neg (by omega), if_pos h, if_neg (by omega)]; omega
  have h' : (u = 0 ∧ D.abs v ≠ 0) ∨ (u ≠ 0 ∧ D.abs v = 0) ∨ (D.abs u = D.abs v ∧ 0 < D.abs v) := by
    rw [Bool.or_eq_true, Bool.and_eq_true, beq_iff_eq, decide_eq_true_eq, bne_iff_ne] at h
    rcases h with h | h
    · by_cases e : u = 0
      · left; refine ⟨e, fun e2 => h ?_⟩; rw [e, e2]
      · right; left
        refine ⟨e, ?_⟩
        by_cases e2 : D.abs v = 0
        · exact e2
        · exact absurd (by rw [beq_eq_false_iff_ne.2 e, beq_eq_false_iff_ne.2 e2]) h
    · right; right; exact h
  generalize D.abs u = x at *
  generalize D.abs v = y at *
  generalize D.sign u = e at *
  generalize D.sign v = f at *
  have hm : ((n : Int) = x ∧ y ≤ x ∨ (n : Int) = y ∧ x ≤ y) := by omega
  clear hn h
  rcases su with ⟨s1, rfl, rfl⟩ | ⟨rfl, rfl, rfl⟩ | ⟨s1, rfl, rfl⟩ <;> rcases sv with ⟨t1, rfl, rfl⟩ | ⟨rfl, rfl, rfl⟩ | ⟨t1, rfl, rfl⟩ <;> first
    | (exfalso; omega)
    | exact ⟨by omega, by omega, by omega, .inl ⟨by omega, by omega, rfl, rfl⟩⟩
    | exact ⟨by omega, by omega, by omega, .inr (.inl ⟨by omega, by omega, rfl, rfl⟩)⟩
    | exact ⟨by omega, by omega, by omega, .inr (.inr (.inl ⟨by omega, by omega, rfl, rfl⟩))⟩
    | exact ⟨by omega, by omega, by omega, .inr (.inr (.inr (.inl ⟨by omega, by omega, rfl, rfl⟩)))⟩
    | exact ⟨by omega, by omega, by omega, .inr (.inr (.inr (.inr (.inl ⟨by omega, by omega, rfl, rfl⟩))))⟩
    | exact ⟨by omega, by omega, by omega, .inr (.inr (.inr (.inr (.inr (.inl ⟨by omega, by omega, rfl, rfl⟩)))))⟩
    | exact ⟨by omega, by omega, by omega, .inr (.inr (.inr (.inr (.inr (.inr (.inl ⟨by omega, by omega, rfl, rfl⟩))))))⟩
    | exact ⟨by omega, by omega, by omega, .inr (.inr (.inr (.inr (.inr (.inr (.inr ⟨by omega, by omega, rfl, rfl⟩))))))⟩

theorem N.betw_btw (s a b : Nat) (ha : a < 64) (hb : b < 64) (h : (D.straight a b || D.across a b) = true) : N.betw s a b = btw a b s := by
  rw [Bool.eq_iff_iff, btw_iff]
  unfold N.betw
  rw [N.stepIs_iff]
  obtain ⟨h1, h2, h3, h4⟩ := line_cases ((b : Int) / 8 - (a : Int) / 8) ((b : Int) % 8 - (a : Int) % 8) (D.dist a b) rfl h
  unfold D.at' D.step
  generalize D.dist a b = n at *
  generalize D.sign ((b : Int) / 8 - (a : Int) / 8) = e at *
  generalize D.sign ((b : Int) % 8 - (a : Int) % 8) = f at *
  clear h h2 h3
  rcases h4 with ⟨h5, h6, rfl, rfl⟩ | ⟨h5, h6, rfl, rfl⟩ | ⟨h5, h6, rfl, rfl⟩ | ⟨h5, h6, rfl, rfl⟩ | ⟨h5, h6, rfl, rfl⟩ | ⟨h5, h6, rfl, rfl⟩ | ⟨h5, h6, rfl, rfl⟩ | ⟨h5, h6, rfl, rfl⟩
  all_goals
    constructor
    · rintro ⟨i, i1, i2, i3⟩
      exact ⟨i, by omega, by omega, by omega⟩
    · rintro ⟨i, i1, i2, i3⟩
      exact ⟨i, by omega, by omega, by omega⟩

theorem d18between_any (s a b : Nat) (w : World) (ha : a < 64) (hb : b < 64) (h : (D.straight a b || D.across a b) = true) :
    Calls Tryd.prog 59 #[.int .i64 (s : Int), .int .i64 (a : Int), .int .i64 (b : Int)] w fun x w' => x = .returned (.bool (N.betw s a b)) ∧ Below w.heap.size w w' := by
  obtain ⟨h1, h2, h3, h4⟩ := line_cases ((b : Int) / 8 - (a : Int) / 8) ((b : Int) % 8 - (a : Int) % 8) (D.dist a b) rfl h
  exact d18between_core s a b (D.dist a b) _ _ _ _ w ha hb h1 (by omega) rfl rfl h2 h3 h4

end Go.Proofs.YtnkkhdcjbjiimaaDoor
