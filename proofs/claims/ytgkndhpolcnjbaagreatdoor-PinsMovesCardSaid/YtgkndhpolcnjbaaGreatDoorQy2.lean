/- Several texts in one: Count, CountW. -/
import Derived.Laws.Bits128
import Derived.Test.YtgkndhpolcnjbaaGreatDoorQa
import Derived.Test.YtgkndhpolcnjbaaGreatDoorQu
namespace Go.Proofs.YtgkndhpolcnjbaaGreatDoor
open Go.RowKit Go.Sort
namespace C
/-- The number of the set bits below n. -/
def cnt (x : Nat) : Nat → Nat
  | 0 => 0
  | n + 1 => cnt x n + (if x.testBit n then 1 else 0)
theorem and_byte (a b m n : Nat) (ha : a < 256) (hm : m < 256) : (a + 256 * b) &&& (m + 256 * n) = (a &&& m) + 256 * (b &&& n) := by
  apply Nat.eq_of_testBit_eq
  intro i
  have e1 : ∀ u v : Nat, u < 256 → (u + 256 * v).testBit i = if i < 8 then u.testBit i else v.testBit (i - 8) := fun u v hu => by
    have := Nat.testBit_two_pow_mul_add v (i := 8) (b := u) (by simpa using hu) i
    rw [show u + 256 * v = 2 ^ 8 * v + u by omega]
    exact this
  have hand : (a &&& m) < 256 := Nat.lt_of_le_of_lt Nat.and_le_left ha
  rw [Nat.testBit_and, e1 a b ha, e1 m n hm, e1 _ _ hand]
  split <;> rw [Nat.testBit_and]
def m1 : Nat → Nat
  | 0 => 0
  | n + 1 => 85 + 256 * m1 n
def m2 : Nat → Nat
  | 0 => 0
  | n + 1 => 51 + 256 * m2 n
def m4 : Nat → Nat
  | 0 => 0
  | n + 1 => 15 + 256 * m4 n
def s1 (x n : Nat) : Nat := ((x / 2) &&& m1 n) + (x &&& m1 n)
def s2 (x n : Nat) : Nat := ((x / 4) &&& m2 n) + (x &&& m2 n)
def s4 (x n : Nat) : Nat := (x / 16 + x) &&& m4 n
/-- The bytes of a number put together. -/
def join (f : Nat → Nat) (x : Nat) : Nat → Nat
  | 0 => 0
  | n + 1 => f (x % 256) + 256 * join f (x / 256) n
def b1 (a : Nat) : Nat := ((a / 2) &&& 85) + (a &&& 85)
def b2 (a : Nat) : Nat := ((a / 4) &&& 51) + (a &&& 51)
def b4 (a : Nat) : Nat := (a / 16 + a) &&& 15
theorem t1 : ∀ (a : Fin 256) (b : Fin 2), ((a.val / 2 + 128 * b.val) &&& 85) = ((a.val / 2) &&& 85) := by decide +kernel
theorem t2 : ∀ (a : Fin 256) (b : Fin 4), ((a.val / 4 + 64 * b.val) &&& 51) = ((a.val / 4) &&& 51) := by decide +kernel
theorem t4 : ∀ (a : Fin 69) (b : Fin 5), ((a.val / 16 + 16 * b.val + a.val) &&& 15) = ((a.val / 16 + a.val) &&& 15) := by decide +kernel
theorem s1_join : ∀ n x, s1 x n = join b1 x n
  | 0, x => by simp [s1, m1, join]
  | n + 1, x => by
    have ih := s1_join n (x / 256)
    have h1 := t1 ⟨x % 256, by omega⟩ ⟨(x / 256) % 2, by omega⟩
    simp only at h1
    unfold s1 at *
    rw [m1, join, ← ih]
    have e1 := and_byte (x % 256) (x / 256) 85 (m1 n) (by omega) (by decide)
    rw [show x % 256 + 256 * (x / 256) = x by omega] at e1
    have e2 : x / 2 = (x % 256 / 2 + 128 * ((x / 256) % 2)) + 256 * (x / 256 / 2) := by omega
    rw [e2, and_byte _ _ _ _ (by omega) (by decide), h1, e1]
    unfold b1
    omega
theorem s2_join : ∀ n x, s2 x n = join b2 x n
  | 0, x => by simp [s2, m2, join]
  | n + 1, x => by
    have ih := s2_join n (x / 256)
    have h1 := t2 ⟨x % 256, by omega⟩ ⟨(x / 256) % 4, by omega⟩
    simp only at h1
    unfold s2 at *
    rw [m2, join, ← ih]
    have e1 := and_byte (x % 256) (x / 256) 51 (m2 n) (by omega) (by decide)
    rw [show x % 256 + 256 * (x / 256) = x by omega] at e1
    have e2 : x / 4 = (x % 256 / 4 + 64 * ((x / 256) % 4)) + 256 * (x / 256 / 4) := by omega
    rw [e2, and_byte _ _ _ _ (by omega) (by decide), h1, e1]
    unfold b2
    omega
theorem join_byte (f : Nat → Nat) (hf : ∀ a, a < 256 → f a < 256) (x n : Nat) : join f x (n + 1) % 256 = f (x % 256) ∧ join f x (n + 1) / 256 = join f (x / 256) n := by
  have := hf (x % 256) (by omega)
  rw [join]
  omega
theorem join_join (f g : Nat → Nat) (hf : ∀ a, a < 256 → f a < 256) : ∀ n x, join g (join f x n) n = join (fun a => g (f a)) x n
  | 0, _ => rfl
  | n + 1, x => by
    obtain ⟨h1, h2⟩ := join_byte f hf x n
    rw [join, h1, h2, join_join f g hf n, join]
theorem b1_lt : ∀ a : Fin 256, b1 a.val < 256 := by decide +kernel
theorem b12_lt : ∀ a : Fin 256, b2 (b1 a.val) < 256 ∧ b2 (b1 a.val) % 16 ≤ 4 ∧ b2 (b1 a.val) / 16 ≤ 4 := by decide +kernel
theorem s4_join (f : Nat → Nat) (hf : ∀ a, a < 256 → f a % 16 ≤ 4 ∧ f a / 16 ≤ 4) : ∀ n x, s4 (join f x n) n = join (fun a => b4 (f a)) x n
  | 0, x => by simp [s4, m4, join]
  | n + 1, x => by
    have ih := s4_join f hf n (x / 256)
    have h0 := hf (x % 256) (by omega)
    have hlow : join f (x / 256) n % 16 ≤ 4 := by
      cases n with
      | zero => simp [join]
      | succ n =>
        have := hf (x / 256 % 256) (by omega)
        rw [join]; omega
    have h1 := t4 ⟨f (x % 256), by omega⟩ ⟨join f (x / 256) n % 16, by omega⟩
    simp only at h1
    unfold s4 at *
    rw [m4, join, join, ← ih]
    generalize join f (x / 256) n = y at *
    generalize f (x % 256) = a at *
    have e2 : (a + 256 * y) / 16 + (a + 256 * y) = (a / 16 + 16 * (y % 16) + a) + 256 * (y / 16 + y) := by omega
    rw [e2, and_byte _ _ _ _ (by omega) (by decide), h1]
    rfl
/-- A byte's count. -/
def p8 (a : Nat) : Nat := b4 (b2 (b1 a))
theorem p8_tab : ∀ a : Fin 256, p8 a.val = cnt a.val 8 ∧ p8 a.val ≤ 8 := by decide +kernel
theorem cnt_byte (x : Nat) : ∀ k, cnt x (8 + k) = cnt (x % 256) 8 + cnt (x / 256) k
  | 0 => by
    have : ∀ n, n ≤ 8 → cnt x n = cnt (x % 256) n := fun n => by
      induction n with
      | zero => intro _; rfl
      | succ n ih =>
        intro hn
        rw [cnt, cnt, ih (by omega)]
        have : (x % 256).testBit n = x.testBit n := by
          have := Nat.testBit_mod_two_pow x 8 n
          rw [show (2 : Nat) ^ 8 = 256 from rfl] at this
          rw [this, decide_eq_true (by omega), Bool.true_and]
        rw [this]
    rw [Nat.add_zero, this 8 (by omega)]; rfl
  | k + 1 => by
    have e3 : cnt (x / 256) (k + 1) = cnt (x / 256) k + (if (x / 256).testBit k then 1 else 0) := rfl
    have e4 : cnt x (8 + (k + 1)) = cnt x (8 + k) + (if x.testBit (8 + k) then 1 else 0) := rfl
    rw [e4, cnt_byte x k, e3]
    have : (x / 256).testBit k = x.testBit (8 + k) := by
      have := Nat.testBit_div_two_pow (n := 8) x (i := k)
      rw [show (2 : Nat) ^ 8 = 256 from rfl] at this
      rw [this, Nat.add_comm]
    rw [this]
    omega
theorem join_lt (f : Nat → Nat) (hf : ∀ a, a < 256 → f a < 256) : ∀ n x, join f x n < 256 ^ n
  | 0, _ => by simp [join]
  | n + 1, x => by
    have h1 := join_lt f hf n (x / 256)
    have h2 := hf (x % 256) (by omega)
    rw [join, Nat.pow_succ]
    omega
theorem join_le (f : Nat → Nat) (B : Nat) (hf : ∀ a, a < 256 → f a ≤ B) : ∀ n x, 255 * join f x n + B ≤ B * 256 ^ n
  | 0, _ => by simp [join]
  | n + 1, x => by
    have h1 := join_le f B hf n (x / 256)
    have h2 := hf (x % 256) (by omega)
    rw [join, Nat.pow_succ, ← Nat.mul_assoc]
    omega
def sumB (x : Nat) : Nat → Nat
  | 0 => 0
  | n + 1 => p8 (x % 256) + sumB (x / 256) n
theorem cnt_sum : ∀ n x, cnt x (8 * n) = sumB x n
  | 0, _ => rfl
  | n + 1, x => by
    rw [show 8 * (n + 1) = 8 + 8 * n by omega, cnt_byte, cnt_sum n, sumB, (p8_tab ⟨x % 256, by omega⟩).1]
def y1 (x : Nat) : Nat := s1 x 8
def y2 (x : Nat) : Nat := s2 (y1 x) 8
def y3 (x : Nat) : Nat := s4 (y2 x) 8
def y4 (x : Nat) : Nat := y3 x + y3 x / 256
def y5 (x : Nat) : Nat := y4 x + y4 x / 65536
def y6 (x : Nat) : Nat := y5 x + y5 x / 4294967296
theorem y1_join (x : Nat) : y1 x = join b1 x 8 := s1_join 8 x
theorem y1_lt (x : Nat) : y1 x < 18446744073709551616 := by
  rw [y1_join]; exact join_lt b1 (fun a ha => b1_lt ⟨a, ha⟩) 8 x
theorem y2_join (x : Nat) : y2 x = join (fun a => b2 (b1 a)) x 8 := by
  unfold y2; rw [y1_join, s2_join, join_join b1 b2 (fun a ha => b1_lt ⟨a, ha⟩)]
theorem y2_le (x : Nat) : 255 * y2 x + 68 ≤ 68 * 18446744073709551616 := by
  rw [y2_join]
  exact join_le _ 68 (fun a ha => by have := b12_lt ⟨a, ha⟩; simp only at this; omega) 8 x
theorem y3_join (x : Nat) : y3 x = join p8 x 8 := by
  unfold y3; rw [y2_join, s4_join _ (fun a ha => (b12_lt ⟨a, ha⟩).2)]; rfl
theorem dv (p q r : Nat) (h : p < q) : (p + q * r) / q = r := by
  rw [Nat.add_mul_div_left _ _ (by omega), Nat.div_eq_of_lt h, Nat.zero_add]
theorem fin1 (p0 r : Nat) (h0 : p0 ≤ 8) : (p0 + 256 * r) / 256 = r := dv p0 256 r (by omega)
theorem fin2 (u v r : Nat) (h0 : u ≤ 16) (h1 : v ≤ 16) : (u + 256 * v + 65536 * r) / 65536 = r := dv _ 65536 r (by omega)
theorem fin3 (u v s t r : Nat) (h0 : u ≤ 32) (h1 : v ≤ 32) (h2 : s ≤ 32) (h3 : t ≤ 32) : (u + 256 * v + 65536 * s + 16777216 * t + 4294967296 * r) / 4294967296 = r := dv _ 4294967296 r (by omega)
theorem reg1 (p0 p1 p2 p3 p4 p5 p6 p7 : Nat) : p0 + 256 * (p1 + 256 * (p2 + 256 * (p3 + 256 * (p4 + 256 * (p5 + 256 * (p6 + 256 * (p7 + 256 * 0))))))) + (p1 + 256 * (p2 + 256 * (p3 + 256 * (p4 + 256 * (p5 + 256 * (p6 + 256 * (p7 + 256 * 0))))))) =
    (p0 + p1) + 256 * (p1 + p2) + 65536 * ((p2 + p3) + 256 * (p3 + p4) + 65536 * ((p4 + p5) + 256 * (p5 + p6) + 65536 * ((p6 + p7) + 256 * p7))) := by omega
theorem reg2 (a b c d e f g h : Nat) : a + 256 * b + 65536 * (c + 256 * d + 65536 * (e + 256 * f + 65536 * (g + 256 * h))) + (c + 256 * d + 65536 * (e + 256 * f + 65536 * (g + 256 * h))) =
    (a + c) + 256 * (b + d) + 65536 * (c + e) + 16777216 * (d + f) + 4294967296 * ((e + g) + 256 * (f + h) + 65536 * g + 16777216 * h) := by omega
theorem reg3 (a b c d r : Nat) (ha : a ≤ 32) (_hb : b ≤ 32) (_hc : c ≤ 32) (_hd : d ≤ 32) (u v s t : Nat) (hu : u ≤ 32) (_hv : v ≤ 32) (_hs : s ≤ 32) (_ht : t ≤ 32) (hr : r = u + 256 * v + 65536 * s + 16777216 * t) :
    (a + 256 * b + 65536 * c + 16777216 * d + 4294967296 * r + r) % 128 = a + u := by omega
theorem fin (p0 p1 p2 p3 p4 p5 p6 p7 : Nat) (q0 : p0 ≤ 8) (q1 : p1 ≤ 8) (q2 : p2 ≤ 8) (q3 : p3 ≤ 8) (q4 : p4 ≤ 8) (q5 : p5 ≤ 8) (q6 : p6 ≤ 8) (q7 : p7 ≤ 8) (a b c d : Nat)
    (ha : a = p0 + 256 * (p1 + 256 * (p2 + 256 * (p3 + 256 * (p4 + 256 * (p5 + 256 * (p6 + 256 * (p7 + 256 * 0)))))))) (hb : b = a + a / 256) (hc : c = b + b / 65536) (hd : d = c + c / 4294967296) :
    d % 128 = p0 + (p1 + (p2 + (p3 + (p4 + (p5 + (p6 + (p7 + 0))))))) ∧ b < 18446744073709551616 ∧ c < 18446744073709551616 ∧ d < 9223372036854775808 := by
  have h4 : b = (p0 + p1) + 256 * (p1 + p2) + 65536 * ((p2 + p3) + 256 * (p3 + p4) + 65536 * ((p4 + p5) + 256 * (p5 + p6) + 65536 * ((p6 + p7) + 256 * p7))) := by
    rw [hb, ha, fin1 _ _ q0, reg1]
  clear ha hb
  have h5 : c = (p0 + p1 + (p2 + p3)) + 256 * (p1 + p2 + (p3 + p4)) + 65536 * (p2 + p3 + (p4 + p5)) + 16777216 * (p3 + p4 + (p5 + p6)) + 4294967296 * ((p4 + p5 + (p6 + p7)) + 256 * (p5 + p6 + p7) + 65536 * (p6 + p7) + 16777216 * p7) := by
    rw [hc, h4, fin2 _ _ _ (by omega) (by omega), reg2]
  clear hc
  have h6 : d = (p0 + p1 + (p2 + p3)) + 256 * (p1 + p2 + (p3 + p4)) + 65536 * (p2 + p3 + (p4 + p5)) + 16777216 * (p3 + p4 + (p5 + p6)) + 4294967296 * ((p4 + p5 + (p6 + p7)) + 256 * (p5 + p6 + p7) + 65536 * (p6 + p7) + 16777216 * p7) + ((p4 + p5 + (p6 + p7)) + 256 * (p5 + p6 + p7) + 65536 * (p6 + p7) + 16777216 * p7) := by
    rw [hd, h5, fin3 _ _ _ _ _ (by omega) (by omega) (by omega) (by omega)]
  clear hd
  refine ⟨?_, ?_, ?_, ?_⟩
  · rw [h6, reg3 _ _ _ _ _ (by omega) (by omega) (by omega) (by omega) _ _ _ _ (by omega) (by omega) (by omega) (by omega) rfl]
    omega
  · rw [h4]; clear h4 h5 h6; omega
  · rw [h5]; clear h4 h5 h6; omega
  · rw [h6]; clear h4 h5 h6; omega
/-- The i-th byte's count. -/
def pb (x : Nat) : Nat := p8 (x % 256)
theorem pb_le (x : Nat) : pb x ≤ 8 := (p8_tab ⟨x % 256, by omega⟩).2
theorem join_pb (x n : Nat) : join p8 x (n + 1) = pb x + 256 * join p8 (x / 256) n := rfl
theorem sum_pb (x n : Nat) : sumB x (n + 1) = pb x + sumB (x / 256) n := rfl
theorem join_8 (x0 x1 x2 x3 x4 x5 x6 x7 : Nat) (h1 : x1 = x0 / 256) (h2 : x2 = x1 / 256) (h3 : x3 = x2 / 256) (h4 : x4 = x3 / 256) (h5 : x5 = x4 / 256) (h6 : x6 = x5 / 256) (h7 : x7 = x6 / 256) :
    join p8 x0 8 = pb x0 + 256 * (pb x1 + 256 * (pb x2 + 256 * (pb x3 + 256 * (pb x4 + 256 * (pb x5 + 256 * (pb x6 + 256 * (pb x7 + 256 * 0))))))) ∧
    sumB x0 8 = pb x0 + (pb x1 + (pb x2 + (pb x3 + (pb x4 + (pb x5 + (pb x6 + (pb x7 + 0))))))) := by
  constructor
  · rw [join_pb x0 7, ← h1, join_pb x1 6, ← h2, join_pb x2 5, ← h3, join_pb x3 4, ← h4, join_pb x4 3, ← h5, join_pb x5 2, ← h6, join_pb x6 1, ← h7, join_pb x7 0, join]
  · rw [sum_pb x0 7, ← h1, sum_pb x1 6, ← h2, sum_pb x2 5, ← h3, sum_pb x3 4, ← h4, sum_pb x4 3, ← h5, sum_pb x5 2, ← h6, sum_pb x6 1, ← h7, sum_pb x7 0, sumB]
theorem y_all (x : Nat) : y6 x % 128 = cnt x 64 ∧ y4 x < 18446744073709551616 ∧ y5 x < 18446744073709551616 ∧ y6 x < 9223372036854775808 := by
  obtain ⟨x1, h1⟩ : ∃ x1, x1 = x / 256 := ⟨_, rfl⟩
  obtain ⟨x2, h2⟩ : ∃ x2, x2 = x1 / 256 := ⟨_, rfl⟩
  obtain ⟨x3, h3⟩ : ∃ x3, x3 = x2 / 256 := ⟨_, rfl⟩
  obtain ⟨x4, h4⟩ : ∃ x4, x4 = x3 / 256 := ⟨_, rfl⟩
  obtain ⟨x5, h5⟩ : ∃ x5, x5 = x4 / 256 := ⟨_, rfl⟩
  obtain ⟨x6, h6⟩ : ∃ x6, x6 = x5 / 256 := ⟨_, rfl⟩
  obtain ⟨x7, h7⟩ : ∃ x7, x7 = x6 / 256 := ⟨_, rfl⟩
  obtain ⟨hj, hs⟩ := join_8 x x1 x2 x3 x4 x5 x6 x7 h1 h2 h3 h4 h5 h6 h7
  have hf := fin _ _ _ _ _ _ _ _ (pb_le x) (pb_le x1) (pb_le x2) (pb_le x3) (pb_le x4) (pb_le x5) (pb_le x6) (pb_le x7) (y3 x) (y4 x) (y5 x) (y6 x) ((y3_join x).trans hj) rfl rfl rfl
  refine ⟨?_, hf.2⟩
  rw [hf.1, ← hs]
  exact (cnt_sum 8 x).symm
end C
end Go.Proofs.YtgkndhpolcnjbaaGreatDoor
namespace Go.Proofs.YtgkndhpolcnjbaaGreatDoor
open Go.RowKit Go.Sort
theorem and_u64 (a b : Nat) (ha : a < 18446744073709551616) (hb : b < 18446744073709551616) : bits .and .u64 (a : Int) (b : Int) = ((a &&& b : Nat) : Int) := u64_and_nat a b ha hb
theorem wrap_u64 (a : Nat) (h : a < 18446744073709551616) : IntKind.u64.wrap (a : Int) = a := by rw [IntKind.wrap_u64]; omega
theorem div_n (a q : Nat) : (a : Int) / (q : Int) = ((a / q : Nat) : Int) := (Int.natCast_ediv a q).symm
theorem ones_k1 (x : Nat) (h : x < 18446744073709551616) : IntKind.u64.wrap (bits .and .u64 ((x : Int) / 2) 6148914691236517205 + bits .and .u64 (x : Int) 6148914691236517205) = (C.y1 x : Int) := by
  have e1 := and_u64 (x / 2) (C.m1 8) (by omega) (by decide)
  have e2 := and_u64 x (C.m1 8) h (by decide)
  have e3 : ((C.m1 8 : Nat) : Int) = 6148914691236517205 := by decide
  rw [e3] at e1 e2
  have e4 := div_n x 2
  rw [show ((2 : Nat) : Int) = 2 from rfl] at e4
  rw [e4, e1, e2, ← Int.natCast_add]
  exact wrap_u64 _ (C.y1_lt x)
theorem ones_k2 (x : Nat) : IntKind.u64.wrap (bits .and .u64 ((C.y1 x : Int) / 4) 3689348814741910323 + bits .and .u64 (C.y1 x : Int) 3689348814741910323) = (C.y2 x : Int) := by
  have h := C.y1_lt x
  have e1 := and_u64 (C.y1 x / 4) (C.m2 8) (by omega) (by decide)
  have e2 := and_u64 (C.y1 x) (C.m2 8) h (by decide)
  have e3 : ((C.m2 8 : Nat) : Int) = 3689348814741910323 := by decide
  rw [e3] at e1 e2
  have e4 := div_n (C.y1 x) 4
  rw [show ((4 : Nat) : Int) = 4 from rfl] at e4
  rw [e4, e1, e2, ← Int.natCast_add]
  have := C.y2_le x
  exact wrap_u64 _ (show C.y2 x < _ by omega)
theorem ones_k3 (x : Nat) : bits .and .u64 (IntKind.u64.wrap ((C.y2 x : Int) / 16 + (C.y2 x : Int))) 1085102592571150095 = (C.y3 x : Int) := by
  have h := C.y2_le x
  have e4 := div_n (C.y2 x) 16
  rw [show ((16 : Nat) : Int) = 16 from rfl] at e4
  rw [e4, ← Int.natCast_add, wrap_u64 _ (by omega)]
  have e2 := and_u64 (C.y2 x / 16 + C.y2 x) (C.m4 8) (by omega) (by decide)
  have e3 : ((C.m4 8 : Nat) : Int) = 1085102592571150095 := by decide
  rw [e3] at e2
  exact e2
theorem ones_k4 (x : Nat) : IntKind.u64.wrap ((C.y3 x : Int) + (C.y3 x : Int) / 256) = (C.y4 x : Int) := by
  have e4 := div_n (C.y3 x) 256
  rw [show ((256 : Nat) : Int) = 256 from rfl] at e4
  rw [e4, ← Int.natCast_add]
  exact wrap_u64 _ (C.y_all x).2.1
theorem ones_k5 (x : Nat) : IntKind.u64.wrap ((C.y4 x : Int) + (C.y4 x : Int) / 65536) = (C.y5 x : Int) := by
  have e4 := div_n (C.y4 x) 65536
  rw [show ((65536 : Nat) : Int) = 65536 from rfl] at e4
  rw [e4, ← Int.natCast_add]
  exact wrap_u64 _ (C.y_all x).2.2.1
theorem ones_k6 (x : Nat) : IntKind.u64.wrap ((C.y5 x : Int) + (C.y5 x : Int) / 4294967296) = (C.y6 x : Int) := by
  have e4 := div_n (C.y5 x) 4294967296
  rw [show ((4294967296 : Nat) : Int) = 4294967296 from rfl] at e4
  rw [e4, ← Int.natCast_add]
  exact wrap_u64 _ (show C.y6 x < _ by have := (C.y_all x).2.2.2; omega)
set_option maxRecDepth 100000 in
set_option maxHeartbeats 1000000 in
theorem ones_core (x : Nat) (w : World) (h : x < 18446744073709551616) :
    Calls Tryz.prog 144 #[.int .u64 (x : Int)] w fun e w' => e = .returned (.int .i64 (C.cnt x 64 : Int)) ∧ w = w' := by
  have H := Lib.hid h
  clear h
  go_enter Tryz.func144, Tryz.ntmps144
  go_wp2
  go_ret
  refine ⟨ret_int ?_, rfl⟩
  have k1 := ones_k1 x H.out
  rw [k1, ones_k2, ones_k3, ones_k4, ones_k5, ones_k6]
  have hy := C.y_all x
  rw [IntWalk.wrap64_in _ ⟨by omega, by have := hy.2.2.2; omega⟩, i64_and127, ← hy.1]
  omega
/-- How many squares a set has. -/
def B.count (b : BitVec 64) : Nat := C.cnt b.toNat 64
set_option maxRecDepth 100000 in
set_option maxHeartbeats 1000000 in
theorem count_any (b : BitVec 64) (w : World) :
    Calls Tryz.prog 82 #[.int .u64 (U b)] w fun e w' => e = .returned (.int .i64 (B.count b : Int)) ∧ w = w' := by
  have hc := Lib.hid (fun W => ones_core b.toNat W (bv_lt b))
  go_enter Tryz.func82, Tryz.ntmps82
  go_wp2_with (go_at_call 144; refine (hc.out _).mono ?_; rintro e w' ⟨rfl, rfl⟩)
  go_ret
  exact ⟨rfl, rfl⟩
theorem cnt_bit (b : BitVec 64) : ∀ n, C.cnt b.toNat (n + 1) = C.cnt b.toNat n + (if bit b n then 1 else 0) := fun _ => rfl
theorem cnt_zero (b : BitVec 64) : ∀ n, C.cnt b.toNat n = 0 → ∀ j, j < n → bit b j = false
  | 0, _, j, hj => by omega
  | n + 1, h, j, hj => by
    rw [cnt_bit] at h
    cases hb : bit b n
    · by_cases e : j = n
      · rw [e]; exact hb
      · exact cnt_zero b n (by rw [hb] at h; simpa using h) j (by omega)
    · rw [hb] at h; simp at h
theorem count_zero (b : BitVec 64) : B.count b = 0 ↔ b = 0#64 := by
  constructor
  · intro h; exact zero_of fun j hj => cnt_zero b 64 h j hj
  · intro h; subst h; decide
theorem cnt_none (b : BitVec 64) : ∀ n, (∀ j, j < n → bit b j = false) → C.cnt b.toNat n = 0
  | 0, _ => rfl
  | n + 1, h => by
    rw [cnt_bit, cnt_none b n (fun j hj => h j (by omega)), h n (by omega)]; rfl
theorem cnt_one_of (b : BitVec 64) (s : Nat) : ∀ n, s < n → (∀ j, j < n → bit b j = decide (j = s)) → C.cnt b.toNat n = 1
  | 0, h, _ => by omega
  | n + 1, hs, h => by
    rw [cnt_bit]
    by_cases e : s = n
    · rw [cnt_none b n (fun j hj => by rw [h j (by omega)]; simp; omega), h n (by omega), decide_eq_true e.symm]; rfl
    · rw [cnt_one_of b s n (by omega) (fun j hj => h j (by omega)), h n (by omega), decide_eq_false (fun e2 => e e2.symm)]; rfl
theorem cnt_one_ex (b : BitVec 64) : ∀ n, C.cnt b.toNat n = 1 → ∃ s, s < n ∧ ∀ j, j < n → bit b j = decide (j = s)
  | 0, h => by cases h
  | n + 1, h => by
    rw [cnt_bit] at h
    cases hb : bit b n
    · obtain ⟨s, hs, hj⟩ := cnt_one_ex b n (by rw [hb] at h; simpa using h)
      refine ⟨s, by omega, fun j hjn => ?_⟩
      by_cases e : j = n
      · rw [e, hb]; simp; omega
      · exact hj j (by omega)
    · rw [hb] at h
      have h0 : C.cnt b.toNat n = 0 := by simpa using h
      refine ⟨n, by omega, fun j hjn => ?_⟩
      by_cases e : j = n
      · rw [e, hb]; simp
      · rw [cnt_zero b n h0 j (by omega)]; simp [e]
theorem count_one (b : BitVec 64) : B.count b = 1 ↔ ∃ s : Nat, s < 64 ∧ b = B.one (s : Int) := by
  constructor
  · intro h
    obtain ⟨s, hs, hj⟩ := cnt_one_ex b 64 h
    exact ⟨s, hs, bit_ext fun j hjn => by rw [hj j hjn, bit_one s j hs]⟩
  · rintro ⟨s, hs, rfl⟩
    exact cnt_one_of _ s 64 hs fun j _ => bit_one s j hs
end Go.Proofs.YtgkndhpolcnjbaaGreatDoor
