/- The reference's package kibitzerref05: what each function computes. -/
import Derived.Deep.LoopGhost
import Derived.Test.YtldpejeodhkgdaaRef05a
namespace Go.Proofs.Ytldpejeodhkgdaa
open Go.RowKit

/-- What find answers. -/
def P.self (p : Int) : Int := if P.isB p then p else 0
def R5.findV (p : Int) : Value := .tuple #[.agg #[.int .u8 (P.self p), .int .u8 (P.color p), .int .u8 (P.kind p), .string (P.letter p)], .bool (P.isB p)]
def R5.FindEnd (p : Int) (w : World) (e : Ending) (w' : World) : Prop := e = .returned (R5.findV p) ∧ Below w.heap.size w w'

def R5.noneTo (p : Int) (n : Nat) : Prop := ∀ j, j < n → ((P.at j) == p) = false
theorem R5.noneTo_succ {p : Int} {n : Nat} (h : R5.noneTo p n) (h1 : ((P.at n) == p) = false) : R5.noneTo p (n + 1) := fun j hj => by
  by_cases e : j = n
  · rw [e]; exact h1
  · exact h j (by omega)

theorem P.at_is (n : Nat) (h : n < 12) : P.isB (P.at n) = true := by
  have h2 := P.at_bd n h
  unfold P.at at *
  unfold P.isB
  split <;> simp <;> omega

theorem R5.findV_at (n : Nat) (h : n < 12) : R5.findV (P.at n) = .tuple #[.agg #[.int .u8 (P.at n), .int .u8 (P.color (P.at n)), .int .u8 (P.kind (P.at n)), .string (P.letter (P.at n))], .bool true] := by
  unfold R5.findV P.self; rw [P.at_is n h]; rfl
theorem P.none_is (p : Int) (h0 : 0 ≤ p) (h : R5.noneTo p 12) : P.isB p = false := by
  rw [← Bool.not_eq_true]
  intro hp
  unfold P.isB at hp
  simp only [decide_eq_true_eq] at hp
  by_cases h6 : p ≤ 6
  · have := h (p - 1).toNat (by omega)
    unfold P.at at this
    simp at this
    omega
  · have := h (p - 3).toNat (by omega)
    unfold P.at at this
    simp at this
    omega
theorem R5.findV_no (p : Int) (h : P.isB p = false) : R5.findV p = .tuple #[.agg #[.int .u8 0, .int .u8 2, .int .u8 0, .string ⟨#[]⟩], .bool false] := by
  unfold R5.findV P.self P.color P.kind P.letter; rw [h]; rfl

set_option maxRecDepth 100000 in
set_option maxHeartbeats 1000000 in
theorem r5find_walk (p : Int) (w : World) (h0 : 0 ≤ p) : Calls Try.prog 40 #[.int .u8 p] w (R5.FindEnd p w) := by
  go_enter Try.func40, Try.ntmps40
  go_wp2_with (go_at_call 39; refine (r5all_end _).mono ?_; rintro e w1 ⟨b, rfl, hbb, hsz, hcell, hb⟩)
  have hf : ∀ j, w1.frozen? ⟨w.heap.size, j, none⟩ = false := fun j => by rw [hb.frozen (by simp)]; exact World.frozen?_alloc_at _ _ _ _ rfl
  have e0 : w1.cell? ⟨w.heap.size, 0, none⟩ = some (.int .u8 0) := by rw [hb.cell (by simp)]; exact cell_new _ _ _ _
  have e1 : w1.cell? ⟨w.heap.size, 1, none⟩ = some (.int .u8 0) := by rw [hb.cell (by simp)]; exact cell_new _ _ _ _
  have e2 : w1.cell? ⟨w.heap.size, 2, none⟩ = some (.int .u8 0) := by rw [hb.cell (by simp)]; exact cell_new _ _ _ _
  have e3 : w1.cell? ⟨w.heap.size, 3, none⟩ = some (.string ⟨#[]⟩) := by rw [hb.cell (by simp)]; exact cell_new _ _ _ _
  have f0 := hf 0
  have f1 := hf 1
  have f2 := hf 2
  have f3 := hf 3
  clear hf
  have Hcell := Lib.hid hcell
  have Hb2 : Hid (Below w.heap.size w w1) := ((Below.refl _ _).alloc (Nat.le_refl _) _).trans (hb.mono (by simp))
  clear hcell hb
  go_loop [5] (fun i => ∃ n : Nat, n ≤ 12 ∧ i = .int .i64 (n : Int) ∧ R5.noneTo p n) (fun i => 12 - (intOf i).toNat)
  case atStart => exact ⟨0, by omega, rfl, fun j hj => by omega⟩
  case round =>
    obtain ⟨n, hn, rfl, hno⟩ := hrel
    have Hno := Lib.hid hno
    clear hno
    by_cases hlt : n < 12
    · obtain ⟨c0, c1, c2, c3⟩ := Hcell.out n hlt
      go_wp2
      · have hp : P.at n = p := by have : (P.at n == p) = true := by assumption
                                   simpa using this
        refine bodyPost_ret (v := .tuple #[.agg #[.int .u8 (P.at n), .int .u8 (P.color (P.at n)), .int .u8 (P.kind (P.at n)), .string (P.letter (P.at n))], .bool true]) (by simp [results, Try.results40, go_sem, e0, e1, e2, e3]) rfl ?_
        exact ⟨by rw [← hp, R5.findV_at n hlt], ((((Hb2.out.setCell (by simp) _).setCell (by simp) _).setCell (by simp) _).setCell (by simp) _)⟩
      · exact ⟨⟨n + 1, by omega, by go_num, R5.noneTo_succ Hno.out (by assumption)⟩, by simp [intOf]; omega⟩
    · obtain rfl : n = 12 := by omega
      go_wp2
      refine bodyPost_ret (v := .tuple #[.agg #[.int .u8 0, .int .u8 2, .int .u8 0, .string ⟨#[]⟩], .bool false]) (by simp [results, Try.results40, go_sem, e0, e1, e2, e3]) rfl ?_
      exact ⟨by rw [R5.findV_no p (P.none_is p h0 Hno.out)], ((((Hb2.out.setCell (by simp) _).setCell (by simp) _).setCell (by simp) _).setCell (by simp) _)⟩

def R5.noneMk (c k : Int) (n : Nat) : Prop := ∀ j, j < n → (P.color (P.at j) == c && P.kind (P.at j) == k) = false
theorem R5.noneMk_succ {c k : Int} {n : Nat} (h : R5.noneMk c k n) (h1 : (P.color (P.at n) == c && P.kind (P.at n) == k) = false) : R5.noneMk c k (n + 1) := fun j hj => by
  by_cases e : j = n
  · rw [e]; exact h1
  · exact h j (by omega)
theorem R5.make_at (n : Nat) (h : n < 12) : P.make (P.color (P.at n)) (P.kind (P.at n)) = P.at n := by
  have : ∀ n : Fin 12, P.make (P.color (P.at n.val)) (P.kind (P.at n.val)) = P.at n.val := by decide +kernel
  exact this ⟨n, h⟩
theorem R5.make_none (c k : Int) (h0 : 0 ≤ c) (h2 : 0 ≤ k) (h : R5.noneMk c k 12) : P.make c k = 0 := by
  unfold P.make
  split
  · exfalso
    have hc : c = 0 ∨ c = 1 := by omega
    have hk : k = 1 ∨ k = 2 ∨ k = 3 ∨ k = 4 ∨ k = 5 ∨ k = 6 := by omega
    have := h (6 * c + k - 1).toNat (by omega)
    revert this
    rcases hc with rfl | rfl <;> rcases hk with rfl | rfl | rfl | rfl | rfl | rfl <;> decide +kernel
  · rfl

set_option maxRecDepth 100000 in
set_option maxHeartbeats 1000000 in
theorem r5make_walk (c k : Int) (w : World) (h0 : 0 ≤ c) (h2 : 0 ≤ k) : Calls Try.prog 24 #[.int .u8 c, .int .u8 k] w fun e w' => e = .returned (.int .u8 (P.make c k)) ∧ Below w.heap.size w w' := by
  go_enter Try.func24, Try.ntmps24
  go_wp2_with (go_at_call 39; refine (r5all_end _).mono ?_; rintro e w1 ⟨b, rfl, hbb, hsz, hcell, hb⟩)
  have Hcell := Lib.hid hcell
  clear hcell
  go_loop [6] (fun i => ∃ n : Nat, n ≤ 12 ∧ i = .int .i64 (n : Int) ∧ R5.noneMk c k n) (fun i => 12 - (intOf i).toNat)
  case atStart => exact ⟨0, by omega, rfl, fun j hj => by omega⟩
  case round =>
    obtain ⟨n, hn, rfl, hno⟩ := hrel
    have Hno := Lib.hid hno
    clear hno
    by_cases hlt : n < 12
    · obtain ⟨c0, c1, c2, c3⟩ := Hcell.out n hlt
      go_wp2
      · have hc : P.color (P.at n) = c := by assumption
        have hk : P.kind (P.at n) = k := by have : (P.kind (P.at n) == k) = true := by assumption
                                            simpa using this
        go_ret
        exact ⟨ret_int (by rw [← hc, ← hk, R5.make_at n hlt]), hb⟩
      · have hc : P.color (P.at n) = c := by assumption
        have hk : (P.kind (P.at n) == k) = false := by assumption
        exact ⟨⟨n + 1, by omega, by go_num, R5.noneMk_succ Hno.out (by rw [hk, Bool.and_false])⟩, by simp [intOf]; omega⟩
      · have hc : ¬ P.color (P.at n) = c := by assumption
        exact ⟨⟨n + 1, by omega, by go_num, R5.noneMk_succ Hno.out (by rw [beq_eq_false_iff_ne.2 hc, Bool.false_and])⟩, by simp [intOf]; omega⟩
    · obtain rfl : n = 12 := by omega
      go_wp2
      go_ret
      exact ⟨ret_int (R5.make_none c k h0 h2 Hno.out).symm, hb⟩




set_option maxRecDepth 100000 in
set_option maxHeartbeats 400000 in
theorem r5letter_walk (p : Int) (w : World) (h0 : 0 ≤ p) : Calls Try.prog 29 #[.int .u8 p] w fun e w' => e = .returned (.string (P.letter p)) ∧ Below w.heap.size w w' := by
  go_enter Try.func29, Try.ntmps29
  go_wp2_with (go_at_call 40; refine (r5find_walk _ _ h0).mono ?_; unfold R5.FindEnd R5.findV; rintro e w1 ⟨rfl, hb⟩)
  go_ret
  exact ⟨rfl, hb.alloc hb.size _⟩



/-- What is parsed is told once. -/
theorem P.parsed_one {s : ByteArray} {p q : Int} {a b : Bool} (h : P.Parsed s p a) (k : P.Parsed s q b) : p = q ∧ a = b := by
  rcases h with ⟨rfl, n, hn, rfl, hy, hno⟩ | ⟨rfl, rfl, hno⟩ <;> rcases k with ⟨rfl, m, hm, rfl, ky, kno⟩ | ⟨rfl, rfl, kno⟩
  · have : n = m := by
      rcases Nat.lt_trichotomy n m with h | h | h
      · have := kno n h; rw [hy] at this; cases this
      · exact h
      · have := hno m h; rw [ky] at this; cases this
    subst this; exact ⟨rfl, rfl⟩
  · have := kno n hn; rw [hy] at this; cases this
  · have := hno m hm; rw [ky] at this; cases this
  · exact ⟨rfl, rfl⟩

end Go.Proofs.Ytldpejeodhkgdaa
