/- math/bits.OnesCount64, bits.Count: the walks. -/
import Derived.Test.YtnkkhdcjbjiimaaDoorCount
import Derived.Test.YtnkkhdcjbjiimaaDoorPins
import Derived.Laws.Bits128
namespace Go.Proofs.YtnkkhdcjbjiimaaDoor
open Go.RowKit Go.Sort

theorem and_u64 (a b : Nat) (ha : a < 18446744073709551616) (hb : b < 18446744073709551616) : bits .and .u64 (a : Int) (b : Int) = ((a &&& b : Nat) : Int) := u64_and_nat a b ha hb
theorem wrap_u64 (a : Nat) (h : a < 18446744073709551616) : IntKind.u64.wrap (a : Int) = a := by rw [IntKind.wrap_u64]; omega
theorem div_n (a q : Nat) : (a : Int) / (q : Int) = ((a / q : Nat) : Int) := (Int.natCast_ediv a q).symm
theorem ones_k1 (x : Nat) (h : x < 18446744073709551616) : IntKind.u64.wrap (bits .and .u64 ((x : Int) / 2) 6148914691236517205 + bits .and .u64 (x : Int) 6148914691236517205) = (C.y1 x : Int) := by
  have e1 := and_u64 (x / 2) (C.m1 8) (by omega) (by decide)
  have e2 := and_u64 x (C.m1 8) h (by decide)
  have e3 : ((C.m1 8 : Nat) : Int) = 6148914691236517205 := by decide
  rw [e3] at e1 e2
  have e4 := div_n x 2
  rw [show ((2 : Nat) : Int) = 2 from rfl] at e4
  rw [e4, e1, e2, ← Int.natCast_add]
  exact wrap_u64 _ (C.y1_lt x)
theorem ones_k2 (x : Nat) : IntKind.u64.wrap (bits .and .u64 ((C.y1 x : Int) / 4) 3689348814741910323 + bits .and .u64 (C.y1 x : Int) 3689348814741910323) = (C.y2 x : Int) := by
  have h := C.y1_lt x
  have e1 := and_u64 (C.y1 x / 4) (C.m2 8) (by omega) (by decide)
  have e2 := and_u64 (C.y1 x) (C.m2 8) h (by decide)
  have e3 : ((C.m2 8 : Nat) : Int) = 3689348814741910323 := by decide
  rw [e3] at e1 e2
  have e4 := div_n (C.y1 x) 4
  rw [show ((4 : Nat) : Int) = 4 from rfl] at e4
  rw [e4, e1, e2, ← Int.natCast_add]
  have := C.y2_le x
  exact wrap_u64 _ (show C.y2 x < _ by omega)
theorem ones_k3 (x : Nat) : bits .and .u64 (IntKind.u64.wrap ((C.y2 x : Int) / 16 + (C.y2 x : Int))) 1085102592571150095 = (C.y3 x : Int) := by
  have h := C.y2_le x
  have e4 := div_n (C.y2 x) 16
  rw [show ((16 : Nat) : Int) = 16 from rfl] at e4
  rw [e4, ← Int.natCast_add, wrap_u64 _ (by omega)]
  have e2 := and_u64 (C.y2 x / 16 + C.y2 x) (C.m4 8) (by omega) (by decide)
  have e3 : ((C.m4 8 : Nat) : Int) = 1085102592571150095 := by decide
  rw [e3] at e2
  exact e2
theorem ones_k4 (x : Nat) : IntKind.u64.wrap ((C.y3 x : Int) + (C.y3 x : Int) / 256) = (C.y4 x : Int) := by
  have e4 := div_n (C.y3 x) 256
  rw [show ((256 : Nat) : Int) = 256 from rfl] at e4
  rw [e4, ← Int.natCast_add]
  exact wrap_u64 _ (C.y_all x).2.1
theorem ones_k5 (x : Nat) : IntKind.u64.wrap ((C.y4 x : Int) + (C.y4 x : Int) / 65536) = (C.y5 x : Int) := by
  have e4 := div_n (C.y4 x) 65536
  rw [show ((65536 : Nat) : Int) = 65536 from rfl] at e4
  rw [e4, ← Int.natCast_add]
  exact wrap_u64 _ (C.y_all x).2.2.1
theorem ones_k6 (x : Nat) : IntKind.u64.wrap ((C.y5 x : Int) + (C.y5 x : Int) / 4294967296) = (C.y6 x : Int) := by
  have e4 := div_n (C.y5 x) 4294967296
  rw [show ((4294967296 : Nat) : Int) = 4294967296 from rfl] at e4
  rw [e4, ← Int.natCast_add]
  exact wrap_u64 _ (show C.y6 x < _ by have := (C.y_all x).2.2.2; omega)

set_option maxRecDepth 100000 in
set_option maxHeartbeats 1000000 in
theorem ones_core (x : Nat) (w : World) (h : x < 18446744073709551616) :
    Calls Tryd.prog 78 #[.int .u64 (x : Int)] w fun e w' => e = .returned (.int .i64 (C.cnt x 64 : Int)) ∧ w = w' := by
  have H := Lib.hid h
  clear h
  go_enter Tryd.func78, Tryd.ntmps78
  go_wp2
  go_ret
  refine ⟨ret_int ?_, rfl⟩
  have k1 := ones_k1 x H.out
  rw [k1, ones_k2, ones_k3, ones_k4, ones_k5, ones_k6]
  have hy := C.y_all x
  rw [IntWalk.wrap64_in _ ⟨by omega, by have := hy.2.2.2; omega⟩, i64_and127, ← hy.1]
  omega

/-- How many squares a set has. -/
def B.count (b : BitVec 64) : Nat := C.cnt b.toNat 64

set_option maxRecDepth 100000 in
set_option maxHeartbeats 1000000 in
theorem count_any (b : BitVec 64) (w : World) :
    Calls Tryd.prog 53 #[.int .u64 (U b)] w fun e w' => e = .returned (.int .i64 (B.count b : Int)) ∧ w = w' := by
  have hc := Lib.hid (fun W => ones_core b.toNat W (bv_lt b))
  go_enter Tryd.func53, Tryd.ntmps53
  go_wp2_with (go_at_call 78; refine (hc.out _).mono ?_; rintro e w' ⟨rfl, rfl⟩)
  go_ret
  exact ⟨rfl, rfl⟩

theorem cnt_bit (b : BitVec 64) : ∀ n, C.cnt b.toNat (n + 1) = C.cnt b.toNat n + (if bit b n then 1 else 0) := fun _ => rfl
theorem cnt_zero (b : BitVec 64) : ∀ n, C.cnt b.toNat n = 0 → ∀ j, j < n → bit b j = false
  | 0, _, j, hj => by omega
  | n + 1, h, j, hj => by
    rw [cnt_bit] at h
    cases hb : bit b n
    · by_cases e : j = n
      · rw [e]; exact hb
      · exact cnt_zero b n (by rw [hb] at h; simpa using h) j (by omega)
    · rw [hb] at h; simp at h
theorem count_zero (b : BitVec 64) : B.count b = 0 ↔ b = 0#64 := by
  constructor
  · intro h; exact zero_of fun j hj => cnt_zero b 64 h j hj
  · intro h; subst h; decide
theorem cnt_none (b : BitVec 64) : ∀ n, (∀ j, j < n → bit b j = false) → C.cnt b.toNat n = 0
  | 0, _ => rfl
  | n + 1, h => by
    rw [cnt_bit, cnt_none b n (fun j hj => h j (by omega)), h n (by omega)]; rfl
theorem cnt_one_of (b : BitVec 64) (s : Nat) : ∀ n, s < n → (∀ j, j < n → bit b j = decide (j = s)) → C.cnt b.toNat n = 1
  | 0, h, _ => by omega
  | n + 1, hs, h => by
    rw [cnt_bit]
    by_cases e : s = n
    · rw [cnt_none b n (fun j hj => by rw [h j (by omega)]; simp; omega), h n (by omega), decide_eq_true e.symm]; rfl
    · rw [cnt_one_of b s n (by omega) (fun j hj => h j (by omega)), h n (by omega), decide_eq_false (fun e2 => e e2.symm)]; rfl
theorem cnt_one_ex (b : BitVec 64) : ∀ n, C.cnt b.toNat n = 1 → ∃ s, s < n ∧ ∀ j, j < n → bit b j = decide (j = s)
  | 0, h => by cases h
  | n + 1, h => by
    rw [cnt_bit] at h
    cases hb : bit b n
    · obtain ⟨s, hs, hj⟩ := cnt_one_ex b n (by rw [hb] at h; simpa using h)
      refine ⟨s, by omega, fun j hjn => ?_⟩
      by_cases e : j = n
      · rw [e, hb]; simp; omega
      · exact hj j (by omega)
    · rw [hb] at h
      have h0 : C.cnt b.toNat n = 0 := by simpa using h
      refine ⟨n, by omega, fun j hjn => ?_⟩
      by_cases e : j = n
      · rw [e, hb]; simp
      · rw [cnt_zero b n h0 j (by omega)]; simp [e]
theorem count_one (b : BitVec 64) : B.count b = 1 ↔ ∃ s : Nat, s < 64 ∧ b = B.one (s : Int) := by
  constructor
  · intro h
    obtain ⟨s, hs, hj⟩ := cnt_one_ex b 64 h
    exact ⟨s, hs, bit_ext fun j hjn => by rw [hj j hjn, bit_one s j hs]⟩
  · rintro ⟨s, hs, rfl⟩
    exact cnt_one_of _ s 64 hs fun j _ => bit_one s j hs

end Go.Proofs.YtnkkhdcjbjiimaaDoor
