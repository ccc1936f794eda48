/- The document's answer of layer 8: Clear. -/
import Derived.Test.YtdfgpbighadplaaDoorRef08c
namespace Go.Proofs.YtdfgpbighadplaaDoor
open Go.RowKit Go.Sort

namespace D
def step (a b : Nat) : Int := 8 * sign ((b : Int) / 8 - (a : Int) / 8) + sign ((b : Int) % 8 - (a : Int) % 8)
theorem sign_bd (n : Int) : -1 ≤ sign n ∧ sign n ≤ 1 := by unfold sign; split <;> (try split) <;> omega
/-- The squares from a to b, one step each: m of them behind a, the last is b. -/
structure Path (a b m : Nat) (q : Nat → Nat) : Prop where
  start : q 0 = a
  last : q m = b
  next : ∀ k, k < m → (q (k + 1) : Int) = q k + step a b
  bd : ∀ k, k ≤ m → q k < 64
  ne : ∀ k, 0 < k → k < m → q k ≠ b
  pos : 1 ≤ m
/-- Is there nothing on the squares from the k-th on? -/
def clear (c : Nat → Int) (q : Nat → Nat) : Nat → Nat → Bool
  | _, 0 => true
  | k, n + 1 => P.kind (c (1 + q k)) == 0 && clear c q (k + 1) n
end D

theorem d8kind_eq (x k : Int) (w : World) (h0 : 0 ≤ x) (h1 : x ≤ 255) (h : P.kind x = k) :
    Calls Tryd.prog 22 #[.int .u8 x] w fun e w' => e = .returned (.int .u8 k) ∧ w = w' := by
  rw [← h]; exact d8kind_any x w h0 h1

set_option maxRecDepth 100000 in
set_option maxHeartbeats 1000000 in
theorem d8clear_any (c : Nat → Int) (a b m : Nat) (q : Nat → Nat) (w : World) (hc : BdOk c) (hq : D.Path a b m q) :
    Calls Tryd.prog 36 #[.agg (posC c), .int .i64 (a : Int), .int .i64 (b : Int)] w fun e w' => e = .returned (.bool (D.clear c q 1 (m - 1))) ∧ Below w.heap.size w w' := by
  have Hc := Lib.hid hc
  have Hq := Lib.hid hq
  have ha : a < 64 := by have := hq.bd 0 (by omega); rwa [hq.start] at this
  have hb : b < 64 := by have := hq.bd m (by omega); rwa [hq.last] at this
  have h1 : (a : Int) + D.step a b = (q 1 : Int) := by have := hq.next 0 hq.pos; rw [hq.start] at this; simpa using this.symm
  have hb1 := hq.bd 1 hq.pos
  have hpos := hq.pos
  have q1 := tdiv8 a
  have q2 := tdiv8 b
  have q3 := tmod8 a
  have q4 := tmod8 b
  have s1 := D.sign_bd ((b : Int) / 8 - (a : Int) / 8)
  have s2 := D.sign_bd ((b : Int) % 8 - (a : Int) % 8)
  have hst : D.step a b = 8 * D.sign ((b : Int) / 8 - (a : Int) / 8) + D.sign ((b : Int) % 8 - (a : Int) % 8) := rfl
  generalize hS : D.step a b = st at *
  clear hc hq
  go_enter Tryd.func36, Tryd.ntmps36
  go_wp2_with (go_at_call 56; refine (d8sign_any _ _).mono ?_; rintro e w' ⟨rfl, rfl⟩)
  rw [← hst, h1]
  have HW := Lib.hid (heap_alloc_new w (.cells (posC c) 31))
  have Hb0 := Lib.hid ((Below.refl w.heap.size w).alloc (Nat.le_refl _) (.cells (posC c) 31))
  clear s1 s2 hst h1 q1 q2 q3 q4
  go_loopg [8] (m - 1) (fun g i wr => ∃ k : Nat, 1 ≤ k ∧ k + g = m ∧ i = .int .i64 (q k : Int) ∧ D.clear c q 1 (m - 1) = D.clear c q k (m - k) ∧ wr.heap[w.heap.size]? = some (.cells (posC c) 31 (0, 0)) ∧ Below w.heap.size w wr)
  case atStart => exact ⟨1, Nat.le_refl _, by omega, rfl, rfl, HW.out, Hb0.out⟩
  case round =>
    obtain ⟨k, hk1, hkg, rfl, he, hp, hbr⟩ := hrel
    have He := Lib.hid he
    clear he
    have hqk := Hq.out.bd k (by omega)
    obtain ⟨x0, x1⟩ := Hc.out (q k) hqk
    have hcl := bd_cell hp (q k) hqk
    by_cases hlt : k < m
    · have hne : ((q k : Int) != (b : Int)) = true := by have := Hq.out.ne k hk1 hlt; simp; omega
      have hnx : (q k : Int) + st = (q (k + 1) : Int) := by rw [Hq.out.next k hlt, hS]
      have hqn := Hq.out.bd (k + 1) (by omega)
      by_cases hz : P.kind (c (1 + q k)) = 0
      · have e := Lib.hid (show D.clear c q k (m - k) = D.clear c q (k + 1) (m - (k + 1)) by
          rw [show m - k = (m - (k + 1)) + 1 by omega, D.clear, hz]; rfl)
        go_wp2_with (go_at_call 22; refine (d8kind_eq _ _ _ x0 x1 hz).mono ?_; rintro e w' ⟨rfl, rfl⟩)
        go_roundg (gk - 1)
        case measure => omega
        case rel => exact ⟨k + 1, by omega, by omega, rfl, by rw [He.out, e.out], hp, hbr⟩
      · have e := Lib.hid (show D.clear c q k (m - k) = false by
          rw [show m - k = (m - (k + 1)) + 1 by omega, D.clear, beq_eq_false_iff_ne.2 hz]; rfl)
        have hzb : (P.kind (c (1 + q k)) != 0) = true := by simpa using hz
        clear hz
        go_wp2_with (go_at_call 22; refine (d8kind_any _ _ x0 x1).mono ?_; rintro e w' ⟨rfl, rfl⟩)
        go_ret
        exact ⟨ret_bool (by rw [He.out, e.out]), hbr⟩
    · obtain rfl : k = m := by omega
      have hl := Hq.out.last
      rw [hl] at hcl ⊢
      go_wp2
      go_ret
      exact ⟨ret_bool (by rw [He.out, Nat.sub_self]; rfl), hbr⟩

end Go.Proofs.YtdfgpbighadplaaDoor
