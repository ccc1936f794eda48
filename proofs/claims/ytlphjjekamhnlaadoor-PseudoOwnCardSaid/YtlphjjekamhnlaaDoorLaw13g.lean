/- The law PseudoOwn. -/
import Derived.Test.YtlphjjekamhnlaaDoorCmpMv
namespace Go.Proofs.YtlphjjekamhnlaaDoor
open Go.RowKit Go.Sort

/-- What the law says of a move. -/
theorem own13 (c : Nat → Int) (hc : PosOk c) (hl : law13 c = true) (m : Mv) (hm : m ∈ D.lst c) :
    ∃ (t a b k : Nat), c 78 = (t : Int) ∧ t ≤ 1 ∧ a < 64 ∧ b < 64 ∧ k ≤ 6 ∧ m = Z.mv a b k ∧ c (1 + a) ≠ 0 ∧ c (1 + a) / 8 = (t : Int) ∧ ¬ (c (1 + b) ≠ 0 ∧ c (1 + b) / 8 = (t : Int)) ∧ ((k ≠ 0) ↔ (c (1 + a) % 8 = 1 ∧ (((b : Int) / 8 = 7 ∧ t = 0) ∨ ((b : Int) / 8 = 0 ∧ t = 1)))) := by
  obtain ⟨t0, _⟩ := pos_u8 hc (i := 78) (by decide) rfl
  unfold law13 at hl
  simp only [Bool.and_eq_true, decide_eq_true_eq] at hl
  obtain ⟨hlw, h2, h9, _⟩ := hl
  have hok : Z.ok c = true := by
    unfold Z.ok
    rw [decide_eq_true (by omega)]
  obtain ⟨t, ht⟩ : ∃ t : Nat, c 78 = (t : Int) := ⟨(c 78).toNat, by omega⟩
  unfold D.lst at hm
  rw [if_pos hok, ht, Int.toNat_natCast] at hm
  obtain ⟨a, b, ha, hb, hmay, he⟩ := (mem_list13 ..).1 hm
  obtain ⟨k, rfl, hk⟩ := (mem_each ..).1 he
  unfold D.may at hmay
  simp only [Bool.and_eq_true] at hmay
  obtain ⟨_, ho, hob, _⟩ := hmay
  have ka := lawful_k c (pos_bd hc) hlw a ha
  have kb := lawful_k c (pos_bd hc) hlw b hb
  obtain ⟨x0, x1⟩ := pos_bd hc a ha
  have hka := D.kind_of _ x0 x1
  have hla := (lawB_iff c).1 hlw a ha
  obtain ⟨e1, e2⟩ := own_bd c a _ ho
  have hx0 : c (1 + a) ≠ 0 := by
    unfold D.empty at e1
    rw [bne, e1] at ka
    simpa using ka.symm
  have hpk : P.kind (c (1 + a)) = 1 ↔ c (1 + a) % 8 = 1 := by
    rw [okL_spec _ x0 x1] at hla
    rw [hka]
    simp at hla
    split <;> omega
  refine ⟨t, a, b, k, ht, by omega, ha, hb, ?_, rfl, hx0, e2, ?_, ?_⟩
  · split at hk
    · exact (promos_ge _ _ hk).2
    · omega
  · rintro ⟨h1, h3⟩
    unfold D.own D.empty D.color at hob
    rw [h3] at hob
    rw [show (P.kind (c (1 + b)) == 0) = false by
      rw [bne] at kb
      have : (c (1 + b) != 0) = true := by simpa using h1
      rw [this] at kb
      simpa using kb] at hob
    simp at hob
  · rw [← hpk]
    have hrk : Z.rank t b = 7 ↔ (((b : Int) / 8 = 7 ∧ t = 0) ∨ ((b : Int) / 8 = 0 ∧ t = 1)) := by
      unfold Z.rank
      split <;> omega
    rw [← hrk]
    split at hk
    · rename_i h
      have := promos_ge _ _ hk
      exact ⟨fun _ => h, fun _ => by omega⟩
    · rename_i h
      rw [hk]
      exact ⟨fun h' => absurd rfl h', fun h' => absurd h' h⟩
theorem next13 (c : Nat → Int) (i : Nat) (x y : Mv) (hx : (D.lst c)[i]? = some x) (hy : (D.lst c)[i + 1]? = some y) : mvLt x y := by
  unfold D.lst at hx hy
  split at hx
  · rename_i h
    rw [if_pos h] at hy
    exact list_next c _ i x y hx hy
  · simp at hx
end Go.Proofs.YtlphjjekamhnlaaDoor
