/- The document's answer of layer 18: between. -/
import Derived.Test.YtnkkhdcjbjiimaaDoorLaw18d
namespace Go.Proofs.YtnkkhdcjbjiimaaDoor
open Go.RowKit Go.Sort

namespace N
/-- Is s among the first squares from the i-th on, on the way from a in steps of u, v? -/
def stepIs (s a : Nat) (u v : Int) : Nat → Nat → Bool
  | _, 0 => false
  | i, n + 1 => (s : Int) == 8 * ((a : Int) / 8 + (i : Int) * u) + (a : Int) % 8 + (i : Int) * v || stepIs s a u v (i + 1) n
theorem below_drew {B : Nat} {a w : World} (h : Below B a w) (n : Nat) : Below B a (w.drewN n) := ⟨h.os, h.tape, h.output, h.size, h.block⟩
end N
theorem step_tab : ∀ (k n : Fin 8) (e : Fin 3), 1 ≤ n.val → wrap64 ((wrap64 (((k.val : Nat) : Int) * (((n.val : Nat) : Int) * ((e.val : Nat) - 1 : Int)))).tdiv ((n.val : Nat) : Int)) = ((k.val : Nat) : Int) * ((e.val : Nat) - 1 : Int) := by decide +kernel
theorem step_pos (k n : Nat) (h : k < n) (hn8 : n ≤ 7) : wrap64 ((wrap64 ((k : Int) * (n : Int))).tdiv (n : Int)) = (k : Int) := by
  have := step_tab ⟨k, by omega⟩ ⟨n, by omega⟩ ⟨2, by omega⟩ (by show 1 ≤ n; omega)
  simpa using this
theorem step_neg (k n : Nat) (h : k < n) (hn8 : n ≤ 7) : wrap64 ((wrap64 ((k : Int) * -(n : Int))).tdiv (n : Int)) = -(k : Int) := by
  have := step_tab ⟨k, by omega⟩ ⟨n, by omega⟩ ⟨0, by omega⟩ (by show 1 ≤ n; omega)
  simpa using this
theorem step_ok (r f p q : Int) (hr : 0 ≤ r ∧ r ≤ 7) (hf : 0 ≤ f ∧ f ≤ 7) (hp : -7 ≤ p ∧ p ≤ 7) (hq : -7 ≤ q ∧ q ≤ 7) :
    wrap64 (r + p) = r + p ∧ wrap64 (8 * (r + p)) = 8 * (r + p) ∧ wrap64 (8 * (r + p) + f) = 8 * (r + p) + f ∧
    wrap64 (8 * (r + p) + f + q) = 8 * (r + p) + f + q :=
  ⟨IntWalk.wrap64_in _ ⟨by omega, by omega⟩, IntWalk.wrap64_in _ ⟨by omega, by omega⟩, IntWalk.wrap64_in _ ⟨by omega, by omega⟩, IntWalk.wrap64_in _ ⟨by omega, by omega⟩⟩

set_option maxRecDepth 100000 in
set_option maxHeartbeats 4000000 in
theorem d18between_core (s a b n : Nat) (u v e f : Int) (w : World) (ha : a < 64) (hb : b < 64) (hn : 1 ≤ n) (hn8 : n ≤ 7)
    (hu : (b : Int) / 8 - (a : Int) / 8 = u) (hv : (b : Int) % 8 - (a : Int) % 8 = v) (hue : u = (n : Int) * e) (hvf : v = (n : Int) * f)
    (hc : (u = n ∧ v = 0 ∧ e = 1 ∧ f = 0) ∨ (u = n ∧ v = n ∧ e = 1 ∧ f = 1) ∨ (u = n ∧ v = -n ∧ e = 1 ∧ f = -1) ∨ (u = 0 ∧ v = n ∧ e = 0 ∧ f = 1) ∨ (u = 0 ∧ v = -n ∧ e = 0 ∧ f = -1) ∨ (u = -n ∧ v = 0 ∧ e = -1 ∧ f = 0) ∨ (u = -n ∧ v = n ∧ e = -1 ∧ f = 1) ∨ (u = -n ∧ v = -n ∧ e = -1 ∧ f = -1)) :
    Calls Tryd.prog 59 #[.int .i64 (s : Int), .int .i64 (a : Int), .int .i64 (b : Int)] w fun x w' => x = .returned (.bool (N.stepIs s a e f 1 (n - 1))) ∧ Below w.heap.size w w' := by
  have q1 := tdiv8 a
  have q2 := tdiv8 b
  have q3 := tmod8 a
  have q4 := tmod8 b
  have bu : -7 ≤ u ∧ u ≤ 7 := by omega
  have bv : -7 ≤ v ∧ v ≤ 7 := by omega
  have hg0 : ∀ k, N.stepIs s a e f k 0 = false := fun _ => rfl
  have hg1 : ∀ (k m : Nat) (p q : Int), (k : Int) * e = p → (k : Int) * f = q → N.stepIs s a e f k (m + 1) = ((s : Int) == 8 * ((a : Int) / 8 + p) + (a : Int) % 8 + q || N.stepIs s a e f (k + 1) m) := fun k m p q hp hq => by
    rw [N.stepIs, hp, hq]
  generalize N.stepIs s a e f = G at hg0 hg1 ⊢
  have Hg0 := Lib.hid hg0
  have Hg1 := Lib.hid hg1
  clear hue hvf hg0 hg1
  have br : (0 ≤ (a : Int) / 8 ∧ (a : Int) / 8 ≤ 7) ∧ (0 ≤ (a : Int) % 8 ∧ (a : Int) % 8 ≤ 7) := by omega
  generalize (a : Int) / 8 = ra at *
  generalize (a : Int) % 8 = fa at *
  generalize (b : Int) / 8 = rb at *
  generalize (b : Int) % 8 = fb at *
  obtain ⟨br1, br2⟩ := br
  rcases hc with ⟨rfl, rfl, rfl, rfl⟩ | ⟨rfl, rfl, rfl, rfl⟩ | ⟨rfl, rfl, rfl, rfl⟩ | ⟨rfl, rfl, rfl, rfl⟩ | ⟨rfl, rfl, rfl, rfl⟩ | ⟨rfl, rfl, rfl, rfl⟩ | ⟨rfl, rfl, rfl, rfl⟩ | ⟨rfl, rfl, rfl, rfl⟩
  · go_enter Tryd.func59, Tryd.ntmps59
    go_wp2
    have hw0 : Below w.heap.size w w := Below.refl _ _
    go_loopw [10] (fun i wr => ∃ k : Nat, 1 ≤ k ∧ k ≤ n ∧ i = .int .i64 (k : Int) ∧ G 1 (n - 1) = G k (n - k) ∧ Below w.heap.size w wr) (fun i _ => n - (intOf i).toNat)
    case atStart => exact ⟨1, by omega, by omega, rfl, rfl, hw0⟩
    case round =>
      obtain ⟨k, hk1, hk, rfl, hst, hbr⟩ := hrel
      have Hst := Lib.hid hst
      clear hst
      by_cases hlt : k < n
      · have hz : ((n : Int) == 0) = false := by simp; omega
        have hm1 : 1 ≤ k + 1 ∧ k + 1 ≤ n := by omega
        have hm2 : n - (k + 1) < n - k := by omega
        have hm3 : n - k = (n - (k + 1)) + 1 := by omega
        obtain ⟨p, hp⟩ : ∃ p : Int, (k : Int) = p := ⟨_, rfl⟩
        have hsn : G k (n - k) = ((s : Int) == 8 * (ra + p) + fa + 0 || G (k + 1) (n - (k + 1))) := by
          rw [hm3]; exact Hg1.out _ _ _ _ (by omega) (by omega)
        have A1 : wrap64 ra = ra := IntWalk.wrap64_in _ ⟨by omega, by omega⟩
        have A2 : wrap64 fa = fa := IntWalk.wrap64_in _ ⟨by omega, by omega⟩
        obtain ⟨S1, S2, S3, S4⟩ := step_ok ra fa p 0 br1 br2 (by omega) (by omega)
        have T1 : wrap64 ((wrap64 ((k : Int) * (n : Int))).tdiv (n : Int)) = p := by rw [← hp]; exact step_pos k n hlt hn8
        obtain ⟨t, ht⟩ : ∃ t, ((s : Int) == 8 * (ra + p) + fa + 0) = t := ⟨_, rfl⟩
        rw [ht] at hsn
        have Hsn := Lib.hid hsn
        clear hsn hm3
        try simp only [Int.add_zero] at S1 S2 S3 S4 ht
        clear hp br1 br2 hu hv bu bv
        cases t
        · go_wp2
          go_quiet (fail)
          go_wp2
          exact ⟨⟨k + 1, hm1.1, hm1.2, rfl, by rw [Hst.out, Hsn.out, Bool.false_or], N.below_drew hbr _⟩, hm2⟩
        · go_wp2
          go_quiet (fail)
          go_wp2
          go_ret
          exact ⟨ret_bool (by rw [Hst.out, Hsn.out, Bool.true_or]), N.below_drew hbr _⟩
      · obtain rfl : k = n := by omega
        go_wp2
        go_ret
        exact ⟨ret_bool (by rw [Hst.out, Nat.sub_self, Hg0.out]), hbr⟩
  · go_enter Tryd.func59, Tryd.ntmps59
    go_wp2
    have hw0 : Below w.heap.size w w := Below.refl _ _
    go_loopw [10] (fun i wr => ∃ k : Nat, 1 ≤ k ∧ k ≤ n ∧ i = .int .i64 (k : Int) ∧ G 1 (n - 1) = G k (n - k) ∧ Below w.heap.size w wr) (fun i _ => n - (intOf i).toNat)
    case atStart => exact ⟨1, by omega, by omega, rfl, rfl, hw0⟩
    case round =>
      obtain ⟨k, hk1, hk, rfl, hst, hbr⟩ := hrel
      have Hst := Lib.hid hst
      clear hst
      by_cases hlt : k < n
      · have hz : ((n : Int) == 0) = false := by simp; omega
        have hm1 : 1 ≤ k + 1 ∧ k + 1 ≤ n := by omega
        have hm2 : n - (k + 1) < n - k := by omega
        have hm3 : n - k = (n - (k + 1)) + 1 := by omega
        obtain ⟨p, hp⟩ : ∃ p : Int, (k : Int) = p := ⟨_, rfl⟩
        have hsn : G k (n - k) = ((s : Int) == 8 * (ra + p) + fa + p || G (k + 1) (n - (k + 1))) := by
          rw [hm3]; exact Hg1.out _ _ _ _ (by omega) (by omega)
        have A1 : wrap64 ra = ra := IntWalk.wrap64_in _ ⟨by omega, by omega⟩
        have A2 : wrap64 fa = fa := IntWalk.wrap64_in _ ⟨by omega, by omega⟩
        obtain ⟨S1, S2, S3, S4⟩ := step_ok ra fa p p br1 br2 (by omega) (by omega)
        have T1 : wrap64 ((wrap64 ((k : Int) * (n : Int))).tdiv (n : Int)) = p := by rw [← hp]; exact step_pos k n hlt hn8
        obtain ⟨t, ht⟩ : ∃ t, ((s : Int) == 8 * (ra + p) + fa + p) = t := ⟨_, rfl⟩
        rw [ht] at hsn
        have Hsn := Lib.hid hsn
        clear hsn hm3
        try simp only [Int.add_zero] at S1 S2 S3 S4 ht
        clear hp br1 br2 hu hv bu bv
        cases t
        · go_wp2
          go_quiet (fail)
          go_wp2
          exact ⟨⟨k + 1, hm1.1, hm1.2, rfl, by rw [Hst.out, Hsn.out, Bool.false_or], N.below_drew hbr _⟩, hm2⟩
        · go_wp2
          go_quiet (fail)
          go_wp2
          go_ret
          exact ⟨ret_bool (by rw [Hst.out, Hsn.out, Bool.true_or]), N.below_drew hbr _⟩
      · obtain rfl : k = n := by omega
        go_wp2
        go_ret
        exact ⟨ret_bool (by rw [Hst.out, Nat.sub_self, Hg0.out]), hbr⟩
  · go_enter Tryd.func59, Tryd.ntmps59
    go_wp2
    have hw0 : Below w.heap.size w w := Below.refl _ _
    go_loopw [10] (fun i wr => ∃ k : Nat, 1 ≤ k ∧ k ≤ n ∧ i = .int .i64 (k : Int) ∧ G 1 (n - 1) = G k (n - k) ∧ Below w.heap.size w wr) (fun i _ => n - (intOf i).toNat)
    case atStart => exact ⟨1, by omega, by omega, rfl, rfl, hw0⟩
    case round =>
      obtain ⟨k, hk1, hk, rfl, hst, hbr⟩ := hrel
      have Hst := Lib.hid hst
      clear hst
      by_cases hlt : k < n
      · have hz : ((n : Int) == 0) = false := by simp; omega
        have hm1 : 1 ≤ k + 1 ∧ k + 1 ≤ n := by omega
        have hm2 : n - (k + 1) < n - k := by omega
        have hm3 : n - k = (n - (k + 1)) + 1 := by omega
        obtain ⟨p, hp⟩ : ∃ p : Int, (k : Int) = p := ⟨_, rfl⟩
        obtain ⟨q, hq⟩ : ∃ q : Int, -(k : Int) = q := ⟨_, rfl⟩
        have hsn : G k (n - k) = ((s : Int) == 8 * (ra + p) + fa + q || G (k + 1) (n - (k + 1))) := by
          rw [hm3]; exact Hg1.out _ _ _ _ (by omega) (by omega)
        have A1 : wrap64 ra = ra := IntWalk.wrap64_in _ ⟨by omega, by omega⟩
        have A2 : wrap64 fa = fa := IntWalk.wrap64_in _ ⟨by omega, by omega⟩
        obtain ⟨S1, S2, S3, S4⟩ := step_ok ra fa p q br1 br2 (by omega) (by omega)
        have T1 : wrap64 ((wrap64 ((k : Int) * (n : Int))).tdiv (n : Int)) = p := by rw [← hp]; exact step_pos k n hlt hn8
        have T2 : wrap64 ((wrap64 ((k : Int) * -(n : Int))).tdiv (n : Int)) = q := by rw [← hq]; exact step_neg k n hlt hn8
        obtain ⟨t, ht⟩ : ∃ t, ((s : Int) == 8 * (ra + p) + fa + q) = t := ⟨_, rfl⟩
        rw [ht] at hsn
        have Hsn := Lib.hid hsn
        clear hsn hm3
        try simp only [Int.add_zero] at S1 S2 S3 S4 ht
        clear hp hq br1 br2 hu hv bu bv
        cases t
        · go_wp2
          go_quiet (fail)
          go_wp2
          exact ⟨⟨k + 1, hm1.1, hm1.2, rfl, by rw [Hst.out, Hsn.out, Bool.false_or], N.below_drew hbr _⟩, hm2⟩
        · go_wp2
          go_quiet (fail)
          go_wp2
          go_ret
          exact ⟨ret_bool (by rw [Hst.out, Hsn.out, Bool.true_or]), N.below_drew hbr _⟩
      · obtain rfl : k = n := by omega
        go_wp2
        go_ret
        exact ⟨ret_bool (by rw [Hst.out, Nat.sub_self, Hg0.out]), hbr⟩
  · go_enter Tryd.func59, Tryd.ntmps59
    go_wp2
    have hw0 : Below w.heap.size w w := Below.refl _ _
    go_loopw [10] (fun i wr => ∃ k : Nat, 1 ≤ k ∧ k ≤ n ∧ i = .int .i64 (k : Int) ∧ G 1 (n - 1) = G k (n - k) ∧ Below w.heap.size w wr) (fun i _ => n - (intOf i).toNat)
    case atStart => exact ⟨1, by omega, by omega, rfl, rfl, hw0⟩
    case round =>
      obtain ⟨k, hk1, hk, rfl, hst, hbr⟩ := hrel
      have Hst := Lib.hid hst
      clear hst
      by_cases hlt : k < n
      · have hz : ((n : Int) == 0) = false := by simp; omega
        have hm1 : 1 ≤ k + 1 ∧ k + 1 ≤ n := by omega
        have hm2 : n - (k + 1) < n - k := by omega
        have hm3 : n - k = (n - (k + 1)) + 1 := by omega
        obtain ⟨p, hp⟩ : ∃ p : Int, (k : Int) = p := ⟨_, rfl⟩
        have hsn : G k (n - k) = ((s : Int) == 8 * (ra + 0) + fa + p || G (k + 1) (n - (k + 1))) := by
          rw [hm3]; exact Hg1.out _ _ _ _ (by omega) (by omega)
        have A1 : wrap64 ra = ra := IntWalk.wrap64_in _ ⟨by omega, by omega⟩
        have A2 : wrap64 fa = fa := IntWalk.wrap64_in _ ⟨by omega, by omega⟩
        obtain ⟨S1, S2, S3, S4⟩ := step_ok ra fa 0 p br1 br2 (by omega) (by omega)
        have T1 : wrap64 ((wrap64 ((k : Int) * (n : Int))).tdiv (n : Int)) = p := by rw [← hp]; exact step_pos k n hlt hn8
        obtain ⟨t, ht⟩ : ∃ t, ((s : Int) == 8 * (ra + 0) + fa + p) = t := ⟨_, rfl⟩
        rw [ht] at hsn
        have Hsn := Lib.hid hsn
        clear hsn hm3
        try simp only [Int.add_zero] at S1 S2 S3 S4 ht
        clear hp br1 br2 hu hv bu bv
        cases t
        · go_wp2
          go_quiet (fail)
          go_wp2
          exact ⟨⟨k + 1, hm1.1, hm1.2, rfl, by rw [Hst.out, Hsn.out, Bool.false_or], N.below_drew hbr _⟩, hm2⟩
        · go_wp2
          go_quiet (fail)
          go_wp2
          go_ret
          exact ⟨ret_bool (by rw [Hst.out, Hsn.out, Bool.true_or]), N.below_drew hbr _⟩
      · obtain rfl : k = n := by omega
        go_wp2
        go_ret
        exact ⟨ret_bool (by rw [Hst.out, Nat.sub_self, Hg0.out]), hbr⟩
  · go_enter Tryd.func59, Tryd.ntmps59
    go_wp2
    have hw0 : Below w.heap.size w w := Below.refl _ _
    go_loopw [10] (fun i wr => ∃ k : Nat, 1 ≤ k ∧ k ≤ n ∧ i = .int .i64 (k : Int) ∧ G 1 (n - 1) = G k (n - k) ∧ Below w.heap.size w wr) (fun i _ => n - (intOf i).toNat)
    case atStart => exact ⟨1, by omega, by omega, rfl, rfl, hw0⟩
    case round =>
      obtain ⟨k, hk1, hk, rfl, hst, hbr⟩ := hrel
      have Hst := Lib.hid hst
      clear hst
      by_cases hlt : k < n
      · have hz : ((n : Int) == 0) = false := by simp; omega
        have hm1 : 1 ≤ k + 1 ∧ k + 1 ≤ n := by omega
        have hm2 : n - (k + 1) < n - k := by omega
        have hm3 : n - k = (n - (k + 1)) + 1 := by omega
        obtain ⟨q, hq⟩ : ∃ q : Int, -(k : Int) = q := ⟨_, rfl⟩
        have hsn : G k (n - k) = ((s : Int) == 8 * (ra + 0) + fa + q || G (k + 1) (n - (k + 1))) := by
          rw [hm3]; exact Hg1.out _ _ _ _ (by omega) (by omega)
        have A1 : wrap64 ra = ra := IntWalk.wrap64_in _ ⟨by omega, by omega⟩
        have A2 : wrap64 fa = fa := IntWalk.wrap64_in _ ⟨by omega, by omega⟩
        obtain ⟨S1, S2, S3, S4⟩ := step_ok ra fa 0 q br1 br2 (by omega) (by omega)
        have T2 : wrap64 ((wrap64 ((k : Int) * -(n : Int))).tdiv (n : Int)) = q := by rw [← hq]; exact step_neg k n hlt hn8
        obtain ⟨t, ht⟩ : ∃ t, ((s : Int) == 8 * (ra + 0) + fa + q) = t := ⟨_, rfl⟩
        rw [ht] at hsn
        have Hsn := Lib.hid hsn
        clear hsn hm3
        try simp only [Int.add_zero] at S1 S2 S3 S4 ht
        clear hq br1 br2 hu hv bu bv
        cases t
        · go_wp2
          go_quiet (fail)
          go_wp2
          exact ⟨⟨k + 1, hm1.1, hm1.2, rfl, by rw [Hst.out, Hsn.out, Bool.false_or], N.below_drew hbr _⟩, hm2⟩
        · go_wp2
          go_quiet (fail)
          go_wp2
          go_ret
          exact ⟨ret_bool (by rw [Hst.out, Hsn.out, Bool.true_or]), N.below_drew hbr _⟩
      · obtain rfl : k = n := by omega
        go_wp2
        go_ret
        exact ⟨ret_bool (by rw [Hst.out, Nat.sub_self, Hg0.out]), hbr⟩
  · go_enter Tryd.func59, Tryd.ntmps59
    go_wp2
    have hw0 : Below w.heap.size w w := Below.refl _ _
    go_loopw [10] (fun i wr => ∃ k : Nat, 1 ≤ k ∧ k ≤ n ∧ i = .int .i64 (k : Int) ∧ G 1 (n - 1) = G k (n - k) ∧ Below w.heap.size w wr) (fun i _ => n - (intOf i).toNat)
    case atStart => exact ⟨1, by omega, by omega, rfl, rfl, hw0⟩
    case round =>
      obtain ⟨k, hk1, hk, rfl, hst, hbr⟩ := hrel
      have Hst := Lib.hid hst
      clear hst
      by_cases hlt : k < n
      · have hz : ((n : Int) == 0) = false := by simp; omega
        have hm1 : 1 ≤ k + 1 ∧ k + 1 ≤ n := by omega
        have hm2 : n - (k + 1) < n - k := by omega
        have hm3 : n - k = (n - (k + 1)) + 1 := by omega
        obtain ⟨q, hq⟩ : ∃ q : Int, -(k : Int) = q := ⟨_, rfl⟩
        have hsn : G k (n - k) = ((s : Int) == 8 * (ra + q) + fa + 0 || G (k + 1) (n - (k + 1))) := by
          rw [hm3]; exact Hg1.out _ _ _ _ (by omega) (by omega)
        have A1 : wrap64 ra = ra := IntWalk.wrap64_in _ ⟨by omega, by omega⟩
        have A2 : wrap64 fa = fa := IntWalk.wrap64_in _ ⟨by omega, by omega⟩
        obtain ⟨S1, S2, S3, S4⟩ := step_ok ra fa q 0 br1 br2 (by omega) (by omega)
        have T2 : wrap64 ((wrap64 ((k : Int) * -(n : Int))).tdiv (n : Int)) = q := by rw [← hq]; exact step_neg k n hlt hn8
        obtain ⟨t, ht⟩ : ∃ t, ((s : Int) == 8 * (ra + q) + fa + 0) = t := ⟨_, rfl⟩
        rw [ht] at hsn
        have Hsn := Lib.hid hsn
        clear hsn hm3
        try simp only [Int.add_zero] at S1 S2 S3 S4 ht
        clear hq br1 br2 hu hv bu bv
        cases t
        · go_wp2
          go_quiet (fail)
          go_wp2
          exact ⟨⟨k + 1, hm1.1, hm1.2, rfl, by rw [Hst.out, Hsn.out, Bool.false_or], N.below_drew hbr _⟩, hm2⟩
        · go_wp2
          go_quiet (fail)
          go_wp2
          go_ret
          exact ⟨ret_bool (by rw [Hst.out, Hsn.out, Bool.true_or]), N.below_drew hbr _⟩
      · obtain rfl : k = n := by omega
        go_wp2
        go_ret
        exact ⟨ret_bool (by rw [Hst.out, Nat.sub_self, Hg0.out]), hbr⟩
  · go_enter Tryd.func59, Tryd.ntmps59
    go_wp2
    have hw0 : Below w.heap.size w w := Below.refl _ _
    go_loopw [10] (fun i wr => ∃ k : Nat, 1 ≤ k ∧ k ≤ n ∧ i = .int .i64 (k : Int) ∧ G 1 (n - 1) = G k (n - k) ∧ Below w.heap.size w wr) (fun i _ => n - (intOf i).toNat)
    case atStart => exact ⟨1, by omega, by omega, rfl, rfl, hw0⟩
    case round =>
      obtain ⟨k, hk1, hk, rfl, hst, hbr⟩ := hrel
      have Hst := Lib.hid hst
      clear hst
      by_cases hlt : k < n
      · have hz : ((n : Int) == 0) = false := by simp; omega
        have hm1 : 1 ≤ k + 1 ∧ k + 1 ≤ n := by omega
        have hm2 : n - (k + 1) < n - k := by omega
        have hm3 : n - k = (n - (k + 1)) + 1 := by omega
        obtain ⟨p, hp⟩ : ∃ p : Int, (k : Int) = p := ⟨_, rfl⟩
        obtain ⟨q, hq⟩ : ∃ q : Int, -(k : Int) = q := ⟨_, rfl⟩
        have hsn : G k (n - k) = ((s : Int) == 8 * (ra + q) + fa + p || G (k + 1) (n - (k + 1))) := by
          rw [hm3]; exact Hg1.out _ _ _ _ (by omega) (by omega)
        have A1 : wrap64 ra = ra := IntWalk.wrap64_in _ ⟨by omega, by omega⟩
        have A2 : wrap64 fa = fa := IntWalk.wrap64_in _ ⟨by omega, by omega⟩
        obtain ⟨S1, S2, S3, S4⟩ := step_ok ra fa q p br1 br2 (by omega) (by omega)
        have T1 : wrap64 ((wrap64 ((k : Int) * (n : Int))).tdiv (n : Int)) = p := by rw [← hp]; exact step_pos k n hlt hn8
        have T2 : wrap64 ((wrap64 ((k : Int) * -(n : Int))).tdiv (n : Int)) = q := by rw [← hq]; exact step_neg k n hlt hn8
        obtain ⟨t, ht⟩ : ∃ t, ((s : Int) == 8 * (ra + q) + fa + p) = t := ⟨_, rfl⟩
        rw [ht] at hsn
        have Hsn := Lib.hid hsn
        clear hsn hm3
        try simp only [Int.add_zero] at S1 S2 S3 S4 ht
        clear hp hq br1 br2 hu hv bu bv
        cases t
        · go_wp2
          go_quiet (fail)
          go_wp2
          exact ⟨⟨k + 1, hm1.1, hm1.2, rfl, by rw [Hst.out, Hsn.out, Bool.false_or], N.below_drew hbr _⟩, hm2⟩
        · go_wp2
          go_quiet (fail)
          go_wp2
          go_ret
          exact ⟨ret_bool (by rw [Hst.out, Hsn.out, Bool.true_or]), N.below_drew hbr _⟩
      · obtain rfl : k = n := by omega
        go_wp2
        go_ret
        exact ⟨ret_bool (by rw [Hst.out, Nat.sub_self, Hg0.out]), hbr⟩
  · go_enter Tryd.func59, Tryd.ntmps59
    go_wp2
    have hw0 : Below w.heap.size w w := Below.refl _ _
    go_loopw [10] (fun i wr => ∃ k : Nat, 1 ≤ k ∧ k ≤ n ∧ i = .int .i64 (k : Int) ∧ G 1 (n - 1) = G k (n - k) ∧ Below w.heap.size w wr) (fun i _ => n - (intOf i).toNat)
    case atStart => exact ⟨1, by omega, by omega, rfl, rfl, hw0⟩
    case round =>
      obtain ⟨k, hk1, hk, rfl, hst, hbr⟩ := hrel
      have Hst := Lib.hid hst
      clear hst
      by_cases hlt : k < n
      · have hz : ((n : Int) == 0) = false := by simp; omega
        have hm1 : 1 ≤ k + 1 ∧ k + 1 ≤ n := by omega
        have hm2 : n - (k + 1) < n - k := by omega
        have hm3 : n - k = (n - (k + 1)) + 1 := by omega
        obtain ⟨q, hq⟩ : ∃ q : Int, -(k : Int) = q := ⟨_, rfl⟩
        have hsn : G k (n - k) = ((s : Int) == 8 * (ra + q) + fa + q || G (k + 1) (n - (k + 1))) := by
          rw [hm3]; exact Hg1.out _ _ _ _ (by omega) (by omega)
        have A1 : wrap64 ra = ra := IntWalk.wrap64_in _ ⟨by omega, by omega⟩
        have A2 : wrap64 fa = fa := IntWalk.wrap64_in _ ⟨by omega, by omega⟩
        obtain ⟨S1, S2, S3, S4⟩ := step_ok ra fa q q br1 br2 (by omega) (by omega)
        have T2 : wrap64 ((wrap64 ((k : Int) * -(n : Int))).tdiv (n : Int)) = q := by rw [← hq]; exact step_neg k n hlt hn8
        obtain ⟨t, ht⟩ : ∃ t, ((s : Int) == 8 * (ra + q) + fa + q) = t := ⟨_, rfl⟩
        rw [ht] at hsn
        have Hsn := Lib.hid hsn
        clear hsn hm3
        try simp only [Int.add_zero] at S1 S2 S3 S4 ht
        clear hq br1 br2 hu hv bu bv
        cases t
        · go_wp2
          go_quiet (fail)
          go_wp2
          exact ⟨⟨k + 1, hm1.1, hm1.2, rfl, by rw [Hst.out, Hsn.out, Bool.false_or], N.below_drew hbr _⟩, hm2⟩
        · go_wp2
          go_quiet (fail)
          go_wp2
          go_ret
          exact ⟨ret_bool (by rw [Hst.out, Hsn.out, Bool.true_or]), N.below_drew hbr _⟩
      · obtain rfl : k = n := by omega
        go_wp2
        go_ret
        exact ⟨ret_bool (by rw [Hst.out, Nat.sub_self, Hg0.out]), hbr⟩

end Go.Proofs.YtnkkhdcjbjiimaaDoor
