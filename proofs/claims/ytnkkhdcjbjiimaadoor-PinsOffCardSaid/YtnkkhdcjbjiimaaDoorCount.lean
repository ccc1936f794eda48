/- math/bits.OnesCount64: how many bits are set. -/
import Derived.Test.YtnkkhdcjbjiimaaDoorBaseA
namespace Go.Proofs.YtnkkhdcjbjiimaaDoor
open Go.RowKit Go.Sort

namespace C
/-- The number of the set bits below n. -/
def cnt (x : Nat) : Nat → Nat
  | 0 => 0
  | n + 1 => cnt x n + (if x.testBit n then 1 else 0)
theorem and_byte (a b m n : Nat) (ha : a < 256) (hm : m < 256) : (a + 256 * b) &&& (m + 256 * n) = (a &&& m) + 256 * (b &&& n) := by
  apply Nat.eq_of_testBit_eq
  intro i
  have e1 : ∀ u v : Nat, u < 256 → (u + 256 * v).testBit i = if i < 8 then u.testBit i else v.testBit (i - 8) := fun u v hu => by
    have := Nat.testBit_two_pow_mul_add v (i := 8) (b := u) (by simpa using hu) i
    rw [show u + 256 * v = 2 ^ 8 * v + u by omega]
    exact this
  have hand : (a &&& m) < 256 := Nat.lt_of_le_of_lt Nat.and_le_left ha
  rw [Nat.testBit_and, e1 a b ha, e1 m n hm, e1 _ _ hand]
  split <;> rw [Nat.testBit_and]
def m1 : Nat → Nat
  | 0 => 0
  | n + 1 => 85 + 256 * m1 n
def m2 : Nat → Nat
  | 0 => 0
  | n + 1 => 51 + 256 * m2 n
def m4 : Nat → Nat
  | 0 => 0
  | n + 1 => 15 + 256 * m4 n
def s1 (x n : Nat) : Nat := ((x / 2) &&& m1 n) + (x &&& m1 n)
def s2 (x n : Nat) : Nat := ((x / 4) &&& m2 n) + (x &&& m2 n)
def s4 (x n : Nat) : Nat := (x / 16 + x) &&& m4 n
/-- The bytes of a number put together. -/
def join (f : Nat → Nat) (x : Nat) : Nat → Nat
  | 0 => 0
  | n + 1 => f (x % 256) + 256 * join f (x / 256) n
def b1 (a : Nat) : Nat := ((a / 2) &&& 85) + (a &&& 85)
def b2 (a : Nat) : Nat := ((a / 4) &&& 51) + (a &&& 51)
def b4 (a : Nat) : Nat := (a / 16 + a) &&& 15
theorem t1 : ∀ (a : Fin 256) (b : Fin 2), ((a.val / 2 + 128 * b.val) &&& 85) = ((a.val / 2) &&& 85) := by decide +kernel
theorem t2 : ∀ (a : Fin 256) (b : Fin 4), ((a.val / 4 + 64 * b.val) &&& 51) = ((a.val / 4) &&& 51) := by decide +kernel
theorem t4 : ∀ (a : Fin 69) (b : Fin 5), ((a.val / 16 + 16 * b.val + a.val) &&& 15) = ((a.val / 16 + a.val) &&& 15) := by decide +kernel
theorem s1_join : ∀ n x, s1 x n = join b1 x n
  | 0, x => by simp [s1, m1, join]
  | n + 1, x => by
    have ih := s1_join n (x / 256)
    have h1 := t1 ⟨x % 256, by omega⟩ ⟨(x / 256) % 2, by omega⟩
    simp only at h1
    unfold s1 at *
    rw [m1, join, ← ih]
    have e1 := and_byte (x % 256) (x / 256) 85 (m1 n) (by omega) (by decide)
    rw [show x % 256 + 256 * (x / 256) = x by omega] at e1
    have e2 : x / 2 = (x % 256 / 2 + 128 * ((x / 256) % 2)) + 256 * (x / 256 / 2) := by omega
    rw [e2, and_byte _ _ _ _ (by omega) (by decide), h1, e1]
    unfold b1
    omega
theorem s2_join : ∀ n x, s2 x n = join b2 x n
  | 0, x => by simp [s2, m2, join]
  | n + 1, x => by
    have ih := s2_join n (x / 256)
    have h1 := t2 ⟨x % 256, by omega⟩ ⟨(x / 256) % 4, by omega⟩
    simp only at h1
    unfold s2 at *
    rw [m2, join, ← ih]
    have e1 := and_byte (x % 256) (x / 256) 51 (m2 n) (by omega) (by decide)
    rw [show x % 256 + 256 * (x / 256) = x by omega] at e1
    have e2 : x / 4 = (x % 256 / 4 + 64 * ((x / 256) % 4)) + 256 * (x / 256 / 4) := by omega
    rw [e2, and_byte _ _ _ _ (by omega) (by decide), h1, e1]
    unfold b2
    omega
theorem join_byte (f : Nat → Nat) (hf : ∀ a, a < 256 → f a < 256) (x n : Nat) : join f x (n + 1) % 256 = f (x % 256) ∧ join f x (n + 1) / 256 = join f (x / 256) n := by
  have := hf (x % 256) (by omega)
  rw [join]
  omega
theorem join_join (f g : Nat → Nat) (hf : ∀ a, a < 256 → f a < 256) : ∀ n x, join g (join f x n) n = join (fun a => g (f a)) x n
  | 0, _ => rfl
  | n + 1, x => by
    obtain ⟨h1, h2⟩ := join_byte f hf x n
    rw [join, h1, h2, join_join f g hf n, join]
theorem b1_lt : ∀ a : Fin 256, b1 a.val < 256 := by decide +kernel
theorem b12_lt : ∀ a : Fin 256, b2 (b1 a.val) < 256 ∧ b2 (b1 a.val) % 16 ≤ 4 ∧ b2 (b1 a.val) / 16 ≤ 4 := by decide +kernel
theorem s4_join (f : Nat → Nat) (hf : ∀ a, a < 256 → f a % 16 ≤ 4 ∧ f a / 16 ≤ 4) : ∀ n x, s4 (join f x n) n = join (fun a => b4 (f a)) x n
  | 0, x => by simp [s4, m4, join]
  | n + 1, x => by
    have ih := s4_join f hf n (x / 256)
    have h0 := hf (x % 256) (by omega)
    have hlow : join f (x / 256) n % 16 ≤ 4 := by
      cases n with
      | zero => simp [join]
      | succ n =>
        have := hf (x / 256 % 256) (by omega)
        rw [join]; omega
    have h1 := t4 ⟨f (x % 256), by omega⟩ ⟨join f (x / 256) n % 16, by omega⟩
    simp only at h1
    unfold s4 at *
    rw [m4, join, join, ← ih]
    generalize join f (x / 256) n = y at *
    generalize f (x % 256) = a at *
    have e2 : (a + 256 * y) / 16 + (a + 256 * y) = (a / 16 + 16 * (y % 16) + a) + 256 * (y / 16 + y) := by omega
    rw [e2, and_byte _ _ _ _ (by omega) (by decide), h1]
    rfl
/-- A byte's count. -/
def p8 (a : Nat) : Nat := b4 (b2 (b1 a))
theorem p8_tab : ∀ a : Fin 256, p8 a.val = cnt a.val 8 ∧ p8 a.val ≤ 8 := by decide +kernel
theorem cnt_byte (x : Nat) : ∀ k, cnt x (8 + k) = cnt (x % 256) 8 + cnt (x / 256) k
  | 0 => by
    have : ∀ n, n ≤ 8 → cnt x n = cnt (x % 256) n := fun n => by
      induction n with
      | zero => intro _; rfl
      | succ n ih =>
        intro hn
        rw [cnt, cnt, ih (by omega)]
        have : (x % 256).testBit n = x.testBit n := by
          have := Nat.testBit_mod_two_pow x 8 n
          rw [show (2 : Nat) ^ 8 = 256 from rfl] at this
          rw [this, decide_eq_true (by omega), Bool.true_and]
        rw [this]
    rw [Nat.add_zero, this 8 (by omega)]; rfl
  | k + 1 => by
    have e3 : cnt (x / 256) (k + 1) = cnt (x / 256) k + (if (x / 256).testBit k then 1 else 0) := rfl
    have e4 : cnt x (8 + (k + 1)) = cnt x (8 + k) + (if x.testBit (8 + k) then 1 else 0) := rfl
    rw [e4, cnt_byte x k, e3]
    have : (x / 256).testBit k = x.testBit (8 + k) := by
      have := Nat.testBit_div_two_pow (n := 8) x (i := k)
      rw [show (2 : Nat) ^ 8 = 256 from rfl] at this
      rw [this, Nat.add_comm]
    rw [this]
    omega
theorem cnt_le (x : Nat) : ∀ n, cnt x n ≤ n
  | 0 => Nat.le_refl _
  | n + 1 => by
    have := cnt_le x n
    rw [cnt]; split <;> omega
theorem join_lt (f : Nat → Nat) (hf : ∀ a, a < 256 → f a < 256) : ∀ n x, join f x n < 256 ^ n
  | 0, _ => by simp [join]
  | n + 1, x => by
    have h1 := join_lt f hf n (x / 256)
    have h2 := hf (x % 256) (by omega)
    rw [join, Nat.pow_succ]
    omega
theorem join_le (f : Nat → Nat) (B : Nat) (hf : ∀ a, a < 256 → f a ≤ B) : ∀ n x, 255 * join f x n + B ≤ B * 256 ^ n
  | 0, _ => by simp [join]
  | n + 1, x => by
    have h1 := join_le f B hf n (x / 256)
    have h2 := hf (x % 256) (by omega)
    rw [join, Nat.pow_succ, ← Nat.mul_assoc]
    omega
def sumB (x : Nat) : Nat → Nat
  | 0 => 0
  | n + 1 => p8 (x % 256) + sumB (x / 256) n
theorem cnt_sum : ∀ n x, cnt x (8 * n) = sumB x n
  | 0, _ => rfl
  | n + 1, x => by
    rw [show 8 * (n + 1) = 8 + 8 * n by omega, cnt_byte, cnt_sum n, sumB, (p8_tab ⟨x % 256, by omega⟩).1]
def y1 (x : Nat) : Nat := s1 x 8
def y2 (x : Nat) : Nat := s2 (y1 x) 8
def y3 (x : Nat) : Nat := s4 (y2 x) 8
def y4 (x : Nat) : Nat := y3 x + y3 x / 256
def y5 (x : Nat) : Nat := y4 x + y4 x / 65536
def y6 (x : Nat) : Nat := y5 x + y5 x / 4294967296
theorem y1_join (x : Nat) : y1 x = join b1 x 8 := s1_join 8 x
theorem y1_lt (x : Nat) : y1 x < 18446744073709551616 := by
  rw [y1_join]; exact join_lt b1 (fun a ha => b1_lt ⟨a, ha⟩) 8 x
theorem y2_join (x : Nat) : y2 x = join (fun a => b2 (b1 a)) x 8 := by
  unfold y2; rw [y1_join, s2_join, join_join b1 b2 (fun a ha => b1_lt ⟨a, ha⟩)]
theorem y2_le (x : Nat) : 255 * y2 x + 68 ≤ 68 * 18446744073709551616 := by
  rw [y2_join]
  exact join_le _ 68 (fun a ha => by have := b12_lt ⟨a, ha⟩; simp only at this; omega) 8 x
theorem y3_join (x : Nat) : y3 x = join p8 x 8 := by
  unfold y3; rw [y2_join, s4_join _ (fun a ha => (b12_lt ⟨a, ha⟩).2)]; rfl
theorem dv (p q r : Nat) (h : p < q) : (p + q * r) / q = r := by
  rw [Nat.add_mul_div_left _ _ (by omega), Nat.div_eq_of_lt h, Nat.zero_add]
theorem fin1 (p0 r : Nat) (h0 : p0 ≤ 8) : (p0 + 256 * r) / 256 = r := dv p0 256 r (by omega)
theorem fin2 (u v r : Nat) (h0 : u ≤ 16) (h1 : v ≤ 16) : (u + 256 * v + 65536 * r) / 65536 = r := dv _ 65536 r (by omega)
theorem fin3 (u v s t r : Nat) (h0 : u ≤ 32) (h1 : v ≤ 32) (h2 : s ≤ 32) (h3 : t ≤ 32) : (u + 256 * v + 65536 * s + 16777216 * t + 4294967296 * r) / 4294967296 = r := dv _ 4294967296 r (by omega)
theorem reg1 (p0 p1 p2 p3 p4 p5 p6 p7 : Nat) : p0 + 256 * (p1 + 256 * (p2 + 256 * (p3 + 256 * (p4 + 256 * (p5 + 256 * (p6 + 256 * (p7 + 256 * 0))))))) + (p1 + 256 * (p2 + 256 * (p3 + 256 * (p4 + 256 * (p5 + 256 * (p6 + 256 * (p7 + 256 * 0))))))) =
    (p0 + p1) + 256 * (p1 + p2) + 65536 * ((p2 + p3) + 256 * (p3 + p4) + 65536 * ((p4 + p5) + 256 * (p5 + p6) + 65536 * ((p6 + p7) + 256 * p7))) := by omega
theorem reg2 (a b c d e f g h : Nat) : a + 256 * b + 65536 * (c + 256 * d + 65536 * (e + 256 * f + 65536 * (g + 256 * h))) + (c + 256 * d + 65536 * (e + 256 * f + 65536 * (g + 256 * h))) =
    (a + c) + 256 * (b + d) + 65536 * (c + e) + 16777216 * (d + f) + 4294967296 * ((e + g) + 256 * (f + h) + 65536 * g + 16777216 * h) := by omega
theorem reg3 (a b c d r : Nat) (ha : a ≤ 32) (_hb : b ≤ 32) (_hc : c ≤ 32) (_hd : d ≤ 32) (u v s t : Nat) (hu : u ≤ 32) (_hv : v ≤ 32) (_hs : s ≤ 32) (_ht : t ≤ 32) (hr : r = u + 256 * v + 65536 * s + 16777216 * t) :
    (a + 256 * b + 65536 * c + 16777216 * d + 4294967296 * r + r) % 128 = a + u := by omega
theorem fin (p0 p1 p2 p3 p4 p5 p6 p7 : Nat) (q0 : p0 ≤ 8) (q1 : p1 ≤ 8) (q2 : p2 ≤ 8) (q3 : p3 ≤ 8) (q4 : p4 ≤ 8) (q5 : p5 ≤ 8) (q6 : p6 ≤ 8) (q7 : p7 ≤ 8) (a b c d : Nat)
    (ha : a = p0 + 256 * (p1 + 256 * (p2 + 256 * (p3 + 256 * (p4 + 256 * (p5 + 256 * (p6 + 256 * (p7 + 256 * 0)))))))) (hb : b = a + a / 256) (hc : c = b + b / 65536) (hd : d = c + c / 4294967296) :
    d % 128 = p0 + (p1 + (p2 + (p3 + (p4 + (p5 + (p6 + (p7 + 0))))))) ∧ b < 18446744073709551616 ∧ c < 18446744073709551616 ∧ d < 9223372036854775808 := by
  have h4 : b = (p0 + p1) + 256 * (p1 + p2) + 65536 * ((p2 + p3) + 256 * (p3 + p4) + 65536 * ((p4 + p5) + 256 * (p5 + p6) + 65536 * ((p6 + p7) + 256 * p7))) := by
    rw [hb, ha, fin1 _ _ q0, reg1]
  clear ha hb
  have h5 : c = (p0 + p1 + (p2 + p3)) + 256 * (p1 + p2 + (p3 + p4)) + 65536 * (p2 + p3 + (p4 + p5)) + 16777216 * (p3 + p4 + (p5 + p6)) + 4294967296 * ((p4 + p5 + (p6 + p7)) + 256 * (p5 + p6 + p7) + 65536 * (p6 + p7) + 16777216 * p7) := by
    rw [hc, h4, fin2 _ _ _ (by omega) (by omega), reg2]
  clear hc
  have h6 : d = (p0 + p1 + (p2 + p3)) + 256 * (p1 + p2 + (p3 + p4)) + 65536 * (p2 + p3 + (p4 + p5)) + 16777216 * (p3 + p4 + (p5 + p6)) + 4294967296 * ((p4 + p5 + (p6 + p7)) + 256 * (p5 + p6 + p7) + 65536 * (p6 + p7) + 16777216 * p7) + ((p4 + p5 + (p6 + p7)) + 256 * (p5 + p6 + p7) + 65536 * (p6 + p7) + 16777216 * p7) := by
    rw [hd, h5, fin3 _ _ _ _ _ (by omega) (by omega) (by omega) (by omega)]
  clear hd
  refine ⟨?_, ?_, ?_, ?_⟩
  · rw [h6, reg3 _ _ _ _ _ (by omega) (by omega) (by omega) (by omega) _ _ _ _ (by omega) (by omega) (by omega) (by omega) rfl]
    omega
  · rw [h4]; clear h4 h5 h6; omega
  · rw [h5]; clear h4 h5 h6; omega
  · rw [h6]; clear h4 h5 h6; omega
/-- The i-th byte's count. -/
def pb (x : Nat) : Nat := p8 (x % 256)
theorem pb_le (x : Nat) : pb x ≤ 8 := (p8_tab ⟨x % 256, by omega⟩).2
theorem join_pb (x n : Nat) : join p8 x (n + 1) = pb x + 256 * join p8 (x / 256) n := rfl
theorem sum_pb (x n : Nat) : sumB x (n + 1) = pb x + sumB (x / 256) n := rfl
theorem join_8 (x0 x1 x2 x3 x4 x5 x6 x7 : Nat) (h1 : x1 = x0 / 256) (h2 : x2 = x1 / 256) (h3 : x3 = x2 / 256) (h4 : x4 = x3 / 256) (h5 : x5 = x4 / 256) (h6 : x6 = x5 / 256) (h7 : x7 = x6 / 256) :
    join p8 x0 8 = pb x0 + 256 * (pb x1 + 256 * (pb x2 + 256 * (pb x3 + 256 * (pb x4 + 256 * (pb x5 + 256 * (pb x6 + 256 * (pb x7 + 256 * 0))))))) ∧
    sumB x0 8 = pb x0 + (pb x1 + (pb x2 + (pb x3 + (pb x4 + (pb x5 + (pb x6 + (pb x7 + 0))))))) := by
  constructor
  · rw [join_pb x0 7, ← h1, join_pb x1 6, ← h2, join_pb x2 5, ← h3, join_pb x3 4, ← h4, join_pb x4 3, ← h5, join_pb x5 2, ← h6, join_pb x6 1, ← h7, join_pb x7 0, join]
  · rw [sum_pb x0 7, ← h1, sum_pb x1 6, ← h2, sum_pb x2 5, ← h3, sum_pb x3 4, ← h4, sum_pb x4 3, ← h5, sum_pb x5 2, ← h6, sum_pb x6 1, ← h7, sum_pb x7 0, sumB]
theorem y_all (x : Nat) : y6 x % 128 = cnt x 64 ∧ y4 x < 18446744073709551616 ∧ y5 x < 18446744073709551616 ∧ y6 x < 9223372036854775808 := by
  obtain ⟨x1, h1⟩ : ∃ x1, x1 = x / 256 := ⟨_, rfl⟩
  obtain ⟨x2, h2⟩ : ∃ x2, x2 = x1 / 256 := ⟨_, rfl⟩
  obtain ⟨x3, h3⟩ : ∃ x3, x3 = x2 / 256 := ⟨_, rfl⟩
  obtain ⟨x4, h4⟩ : ∃ x4, x4 = x3 / 256 := ⟨_, rfl⟩
  obtain ⟨x5, h5⟩ : ∃ x5, x5 = x4 / 256 := ⟨_, rfl⟩
  obtain ⟨x6, h6⟩ : ∃ x6, x6 = x5 / 256 := ⟨_, rfl⟩
  obtain ⟨x7, h7⟩ : ∃ x7, x7 = x6 / 256 := ⟨_, rfl⟩
  obtain ⟨hj, hs⟩ := join_8 x x1 x2 x3 x4 x5 x6 x7 h1 h2 h3 h4 h5 h6 h7
  have hf := fin _ _ _ _ _ _ _ _ (pb_le x) (pb_le x1) (pb_le x2) (pb_le x3) (pb_le x4) (pb_le x5) (pb_le x6) (pb_le x7) (y3 x) (y4 x) (y5 x) (y6 x) ((y3_join x).trans hj) rfl rfl rfl
  refine ⟨?_, hf.2⟩
  rw [hf.1, ← hs]
  exact (cnt_sum 8 x).symm
end C

end Go.Proofs.YtnkkhdcjbjiimaaDoor
