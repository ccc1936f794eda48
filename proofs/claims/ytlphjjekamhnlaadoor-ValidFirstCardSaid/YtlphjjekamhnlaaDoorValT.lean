/- Positions that may be: colors and ranks turned about. No walk. -/
import Derived.Test.YtlphjjekamhnlaaDoorVal
namespace Go.Proofs.YtlphjjekamhnlaaDoor
open Go.RowKit Go.Sort

namespace Y
def tp2 (x : Int) : Int := if 0 < x ∧ x < 16 then (x + 8) % 16 else x
def xor1 (t : Int) : Int := bits .xor .u8 t 1
/-- The bits of a set by ranks turned about. -/
def flipB (m : BitVec 64) : BitVec 64 := (BitVec.ofBoolListLE ((List.range 64).map fun i => bit m (flp i))).setWidth 64
def turnV (c : Nat → Int) : Nat → Int := fun i =>
  if i = 0 then c 0 else if i < 65 then tp2 (c (1 + flp (i - 1))) else if i = 65 then U (flipB (prom c)) else if i < 72 then c (i + 6) else if i < 78 then c (i - 6)
  else if i = 78 then xor1 (c 78) else if i < 81 then c (i + 2) else if i < 83 then c (i - 2) else if i = 83 then (if 0 ≤ c 83 ∧ c 83 < 64 then ((flp (c 83).toNat : Nat) : Int) else c 83) else if i = 84 then c 85 else if i = 85 then c 84 else c i
theorem bit_flipB (m : BitVec 64) (j : Nat) (hj : j < 64) : bit (flipB m) (flp j) = bit m j := by
  have := flp_lt j hj
  unfold flipB bit
  rw [BitVec.getLsbD_setWidth, BitVec.getLsbD_ofBoolListLE]
  simp [this, flp_flp j hj]
theorem turnV_0 (c : Nat → Int) : turnV c 0 = c 0 := rfl
theorem turnV_sq (c : Nat → Int) (j : Nat) (hj : j < 64) : turnV c (1 + flp j) = tp2 (c (1 + j)) := by
  have := flp_lt j hj
  unfold turnV
  rw [if_neg (by omega), if_pos (by omega), show 1 + flp j - 1 = flp j by omega, flp_flp j hj]
theorem turnV_sq' (c : Nat → Int) (j : Nat) (hj : j < 64) : turnV c (1 + j) = tp2 (c (1 + flp j)) := by
  have := turnV_sq c (flp j) (flp_lt j hj)
  rwa [flp_flp j hj] at this
theorem turnV_78 (c : Nat → Int) : turnV c 78 = xor1 (c 78) := rfl
theorem turnV_83 (c : Nat → Int) : turnV c 83 = if 0 ≤ c 83 ∧ c 83 < 64 then ((flp (c 83).toNat : Nat) : Int) else c 83 := rfl
theorem turnV_65 (c : Nat → Int) : turnV c 65 = U (flipB (prom c)) := rfl
theorem turnV_rook (c : Nat → Int) (t k : Nat) (ht : t < 2) (hk : k < 2) : turnV c (79 + 2 * t + k) = c (79 + 2 * (1 - t) + k) := by
  rcases (show (t = 0 ∧ k = 0) ∨ (t = 0 ∧ k = 1) ∨ (t = 1 ∧ k = 0) ∨ (t = 1 ∧ k = 1) by omega) with ⟨rfl, rfl⟩ | ⟨rfl, rfl⟩ | ⟨rfl, rfl⟩ | ⟨rfl, rfl⟩ <;> rfl
theorem tp2_ok (x : Int) (h0 : 0 ≤ x) (h1 : x ≤ 255) (h8 : x ≠ 8) : okL (tp2 x) = okL x := by
  have := all8 (fun x => x ≠ 8 → okL (tp2 x) = okL x) (by decide +kernel) x h0 h1
  exact this h8
theorem tp2_tpc (x : Int) (h0 : 0 ≤ x) (h1 : x ≤ 255) (h : okL x = true) : tp2 x = tpc x :=
  all8 (fun x => okL x = true → tp2 x = tpc x) (by decide +kernel) x h0 h1 h
theorem xor1_le (t : Int) (h0 : 0 ≤ t) (h1 : t ≤ 255) : decide (xor1 t ≤ 1) = decide (t ≤ 1) :=
  all8 (fun t => decide (xor1 t ≤ 1) = decide (t ≤ 1)) (by decide +kernel) t h0 h1
theorem xor1_eq (t : Int) (h0 : 0 ≤ t) (h1 : t ≤ 1) : xor1 t = 1 - t := by
  rcases (show t = 0 ∨ t = 1 by omega) with rfl | rfl <;> decide +kernel

section
variable {c : Nat → Int} (hc : PosOk c)
include hc
theorem lawB_turn (h8 : ∀ j, j < 64 → c (1 + j) ≠ 8) : lawB (turnV c) = lawB c := by
  rw [Bool.eq_iff_iff, lawB_iff, lawB_iff]
  constructor
  · intro g j hj
    obtain ⟨x0, x1⟩ := pos_bd hc j hj
    have := g (flp j) (flp_lt j hj)
    rwa [turnV_sq c j hj, tp2_ok _ x0 x1 (h8 j hj)] at this
  · intro g j hj
    have hj' := flp_lt j hj
    obtain ⟨x0, x1⟩ := pos_bd hc (flp j) hj'
    rw [turnV_sq' c j hj, tp2_ok _ x0 x1 (h8 _ hj')]
    exact g _ hj'
theorem plain_turn (h8 : ∀ j, j < 64 → c (1 + j) ≠ 8) : plain (turnV c) = plain c := by
  obtain ⟨t0, t1⟩ := pos_u8 hc (i := 78) (by decide) rfl
  have e1 : head (turnV c) = head c := by
    unfold head
    rw [turnV_0, turnV_78, xor1_le _ t0 t1]
    congr 2
    rw [turnV_83]
    by_cases h : 0 ≤ c 83 ∧ c 83 < 64
    · have := flp_lt (c 83).toNat (by omega)
      rw [if_pos h, decide_eq_true (show -1 ≤ ((flp (c 83).toNat : Nat) : Int) by omega), decide_eq_true (show ((flp (c 83).toNat : Nat) : Int) < 64 by omega), decide_eq_true (show -1 ≤ c 83 by omega), decide_eq_true (show c 83 < 64 by omega)]
    · rw [if_neg h]
  have e2 : side (turnV c) 0 = side c 1 := rfl
  have e3 : side (turnV c) 1 = side c 0 := rfl
  unfold plain
  rw [e1, e2, e3, lawB_turn hc h8, Bool.and_comm (side c 1)]
end

theorem cntTo_P (c : Nat → Int) (v : Int) : ∀ n, cntTo c v n = (List.range n).countP fun j => c (1 + j) == v
  | 0 => rfl
  | n + 1 => by
    rw [cntTo, cntTo_P c v n, List.range_succ, List.countP_append]
    cases h : (c (1 + n) == v) <;> simp [h]
theorem menTo_P (c : Nat → Int) : ∀ n, menTo c n = (List.range n).countP fun j => !(c (1 + j) == 0)
  | 0 => rfl
  | n + 1 => by
    rw [menTo, menTo_P c n, List.range_succ, List.countP_append]
    cases h : (c (1 + n) == 0) <;> simp [h]
theorem flp_perm : ((List.range 64).map flp).Perm (List.range 64) := by decide +kernel
theorem count_flp (p q : Nat → Bool) (h : ∀ j, j < 64 → p j = q (flp j)) : (List.range 64).countP p = (List.range 64).countP q := by
  rw [← (flp_perm.countP_eq q), List.countP_map]
  refine List.countP_congr fun j hj => ?_
  rw [h j (List.mem_range.1 hj)]
  rfl

section
variable {c : Nat → Int} (hc : PosOk c) (hp : plain c = true)
include hc hp
theorem sq_bd (j : Nat) (hj : j < 64) : 0 ≤ c (1 + j) ∧ c (1 + j) ≤ 15 ∧ okL (c (1 + j)) = true := by
  obtain ⟨x0, x1⟩ := pos_bd hc j hj
  have h := (lawB_iff c).1 (plain_split hp).2.1 j hj
  exact ⟨x0, all8 (fun x => okL x = true → x ≤ 15) (by decide +kernel) _ x0 x1 h, h⟩
theorem turn_bd : SameBd (turnV c) (turnC c) := fun j hj => by
  have hj' := flp_lt j hj
  obtain ⟨x0, x1, h⟩ := sq_bd hc hp (flp j) hj'
  have := turnC_sq c (flp j) hj'
  rw [flp_flp j hj] at this
  rw [turnV_sq' c j hj, this, tp2_tpc _ x0 (by omega) h]
theorem t01 : c 78 = 0 ∨ c 78 = 1 := by
  obtain ⟨t0, t1⟩ := pos_u8 hc (i := 78) (by decide) rfl
  obtain ⟨_, a, _⟩ := head_bd hp
  omega
theorem turn78 : turnV c 78 = 1 - c 78 := by
  rw [turnV_78]
  rcases t01 hc hp with h | h <;> rw [h] <;> decide +kernel
theorem cnt_turn (t : Int) (ht : t = 0 ∨ t = 1) : cnt (turnV c) t = cnt c (1 - t) := by
  unfold cnt
  rw [cntTo_P, cntTo_P]
  refine count_flp _ _ fun j hj => ?_
  obtain ⟨x0, x1, h⟩ := sq_bd hc hp (flp j) (flp_lt j hj)
  rw [turnV_sq' c j hj]
  revert x0 x1 h
  generalize c (1 + flp j) = x
  intro x0 x1 h
  rcases ht with rfl | rfl
  · exact all8 (fun x => okL x = true → (tp2 x == 8 * 0 + 6) = (x == 8 * (1 - 0) + 6)) (by decide +kernel) x x0 (by omega) h
  · exact all8 (fun x => okL x = true → (tp2 x == 8 * 1 + 6) = (x == 8 * (1 - 1) + 6)) (by decide +kernel) x x0 (by omega) h
theorem kings_turn (h7 : c 0 ≠ 7) : kings (turnV c) = kings c := by
  have key : ∀ t : Int, t = 0 ∨ t = 1 → kingOk (turnV c) t = kingOk c (1 - t) := fun t ht => by
    unfold kingOk
    rw [cnt_turn hc hp t ht, turn78 hc hp, turnV_0]
    have hr : V.royal (c 0) t = V.royal (c 0) (1 - t) := by
      unfold V.royal
      rw [decide_eq_true (show t = 0 ∨ t = 1 from ht), decide_eq_true (show 1 - t = 0 ∨ 1 - t = 1 by omega), decide_eq_true (show c 0 ≠ 7 from h7)]
      rfl
    have e : (1 - c 78 == t) = (c 78 == 1 - t) := by rw [Bool.eq_iff_iff]; simp <;> omega
    rw [hr, e]
  unfold kings
  rw [turnV_0, key 0 (.inl rfl), key 1 (.inr rfl), show (1 : Int) - 0 = 1 from rfl, show (1 : Int) - 1 = 0 from rfl, Bool.and_comm (kingOk c 1)]
omit hc hp in
theorem pawnsTo_iff (c : Nat → Int) : ∀ n, pawnsTo c n = true ↔ ∀ j, j < n → pawnOk (c 0) j (c (1 + j)) = true
  | 0 => by simp [pawnsTo]
  | n + 1 => by
    rw [pawnsTo, Bool.and_eq_true, pawnsTo_iff c n]
    exact ⟨fun ⟨a, b⟩ j hj => by rcases Nat.lt_succ_iff_lt_or_eq.1 hj with h | rfl; exact a j h; exact b, fun h => ⟨fun j hj => h j (by omega), h n (by omega)⟩⟩
omit hc hp in
theorem promTo_iff (c : Nat → Int) : ∀ n, promTo c n = true ↔ ∀ j, j < n → promOk (prom c) j (c (1 + j)) = true
  | 0 => by simp [promTo]
  | n + 1 => by
    rw [promTo, Bool.and_eq_true, promTo_iff c n]
    exact ⟨fun ⟨a, b⟩ j hj => by rcases Nat.lt_succ_iff_lt_or_eq.1 hj with h | rfl; exact a j h; exact b, fun h => ⟨fun j hj => h j (by omega), h n (by omega)⟩⟩
theorem kind_tp2 (j : Nat) (hj : j < 64) : P.kind (tp2 (c (1 + j))) = P.kind (c (1 + j)) := by
  obtain ⟨x0, x1, h⟩ := sq_bd hc hp j hj
  exact all8 (fun x => okL x = true → P.kind (tp2 x) = P.kind x) (by decide +kernel) _ x0 (by omega) h
theorem pawnOk_turn (h7 : c 0 ≠ 7) (j : Nat) (hj : j < 64) : pawnOk (c 0) (flp j) (tp2 (c (1 + j))) = pawnOk (c 0) j (c (1 + j)) := by
  unfold pawnOk
  rw [kind_tp2 hc hp j hj, show (c 0 == 7) = false by simpa using h7, Bool.false_and, Bool.false_and, Bool.or_false, Bool.or_false]
  congr 2
  unfold flp
  rw [Bool.eq_iff_iff]
  simp
  omega
theorem pawns_turn (h7 : c 0 ≠ 7) : pawns (turnV c) = pawns c := by
  unfold pawns
  rw [Bool.eq_iff_iff, pawnsTo_iff, pawnsTo_iff, turnV_0]
  constructor
  · intro g j hj
    have := g (flp j) (flp_lt j hj)
    rwa [turnV_sq c j hj, pawnOk_turn hc hp h7 j hj] at this
  · intro g j hj
    have hj' := flp_lt j hj
    have := pawnOk_turn hc hp h7 (flp j) hj'
    rw [flp_flp j hj] at this
    rw [turnV_sq' c j hj, this]
    exact g _ hj'
omit hc hp in
theorem prom_turn : prom (turnV c) = flipB (prom c) := by
  show BitVec.ofInt 64 (U (flipB (prom c))) = _
  unfold U
  rw [BitVec.ofInt_natCast, BitVec.ofNat_toNat, BitVec.setWidth_eq]
theorem promTo_turn : promTo (turnV c) 64 = promTo c 64 := by
  have key : ∀ j, j < 64 → promOk (flipB (prom c)) (flp j) (tp2 (c (1 + j))) = promOk (prom c) j (c (1 + j)) := fun j hj => by
    unfold promOk
    rw [bit_flipB _ j hj, kind_tp2 hc hp j hj]
  rw [Bool.eq_iff_iff, promTo_iff, promTo_iff, prom_turn]
  constructor
  · intro g j hj
    have := g (flp j) (flp_lt j hj)
    rwa [turnV_sq c j hj, key j hj] at this
  · intro g j hj
    have hj' := flp_lt j hj
    have := key (flp j) hj'
    rw [flp_flp j hj] at this
    rw [turnV_sq' c j hj, this]
    exact g _ hj'
theorem menTo_turn : menTo (turnV c) 64 = menTo c 64 := by
  rw [menTo_P, menTo_P]
  refine count_flp _ _ fun j hj => ?_
  obtain ⟨x0, x1, h⟩ := sq_bd hc hp (flp j) (flp_lt j hj)
  rw [turnV_sq' c j hj]
  exact all8 (fun x => okL x = true → (!(tp2 x == 0)) = !(x == 0)) (by decide +kernel) _ x0 (by omega) h
omit hc hp in
theorem held_turn : heldTo (turnV c) 12 = heldTo c 12 := by
  simp only [heldTo, turnV]
  simp
  omega
omit hc hp in
theorem pk0_turn : pk0 (turnV c) = pk0 c := by
  unfold pk0
  rw [Bool.eq_iff_iff, List.all_eq_true, List.all_eq_true]
  have e : ∀ i, i < 12 → turnV c (66 + i) = c (66 + (i + 6) % 12) := fun i hi => by
    unfold turnV
    rw [if_neg (by omega), if_neg (by omega), if_neg (by omega)]
    by_cases h : i < 6
    · rw [if_pos (by omega), show 66 + (i + 6) % 12 = 66 + i + 6 by omega]
    · rw [if_neg (by omega), if_pos (by omega), show 66 + (i + 6) % 12 = 66 + i - 6 by omega]
  constructor
  · intro g i hi
    have hi := List.mem_range.1 hi
    have := g ((i + 6) % 12) (List.mem_range.2 (by omega))
    rwa [e _ (by omega), show ((i + 6) % 12 + 6) % 12 = i by omega] at this
  · intro g i hi
    have hi := List.mem_range.1 hi
    rw [e i hi]
    exact g _ (List.mem_range.2 (by omega))
omit hp in
theorem zero_turn : (turnV c 65 == 0) = (c 65 == 0) := by
  obtain ⟨p0, p1⟩ := pos_u64 hc
  have e : c 65 = U (prom c) := by
    unfold prom U
    rw [BitVec.toNat_ofInt]
    omega
  have z : ∀ m : BitVec 64, (U m == 0) = decide (m = 0#64) := U_zero
  rw [turnV_65, e, z, z, decide_eq_decide]
  constructor
  · intro h
    refine zero_of fun n hn => ?_
    rw [← bit_flipB _ n hn, h, bit_zero]
  · intro h
    refine zero_of fun n hn => ?_
    have := bit_flipB (prom c) (flp n) (flp_lt n hn)
    rw [flp_flp n hn] at this
    rw [this, h, bit_zero]
theorem pockets_turn : pockets (turnV c) = pockets c := by
  unfold pockets
  rw [promTo_turn hc hp, menTo_turn hc hp, held_turn, pk0_turn, zero_turn hc, turnV_0]
  show (if c 0 = 2 then promTo c 64 && (c 72 == 0 && (c 66 == 0 && _)) else _) = _
  rw [Bool.and_left_comm (c 72 == 0)]
/-- With one king at most of each color. -/
theorem find_turn (t : Int) (h1 : OneK c (1 - t)) : S.find (turnV c) t 6 = if S.find c (1 - t) 6 < 0 then -1 else ((flp (S.find c (1 - t) 6).toNat : Nat) : Int) := by
  have hb := pos_bd hc
  have hl := (plain_split hp).2.1
  rw [(turn_bd hc hp).find, find_eq _ _ (turnC_bd c hb), find_eq _ _ hb]
  have e : t = 1 - (1 - t) := by omega
  rcases find_cases c (1 - t) with hno | ⟨n, hn, hk⟩
  · rw [find_no c (1 - t) hno, if_pos (by omega)]
    refine find_no _ _ fun j hj => ?_
    have := is_turn hb hl (1 - t) 6 (by omega) (flp j) (flp_lt j hj)
    rw [flp_flp j hj, ← e] at this
    rw [this]
    exact hno _ (flp_lt j hj)
  · rw [find_of c (1 - t) h1 n hn hk, if_neg (by omega), Int.toNat_natCast]
    have h1' := oneK_turn hb hl (1 - t) h1
    rw [← e] at h1'
    refine find_of _ _ h1' (flp n) (flp_lt n hn) ?_
    have := is_turn hb hl (1 - t) 6 (by omega) n hn
    rw [← e] at this
    rw [this, hk]
theorem right_turn (t k : Nat) (ht : t < 2) (hk : k < 2) (h1 : OneK c (1 - (t : Int))) : right (turnV c) t k = right c (1 - t) k := by
  have hr := turnV_rook c t k ht hk
  obtain ⟨f0, f1⟩ := side_rook hp (1 - t) k (by omega) hk
  have hfd := find_turn hc hp (t : Int) h1
  unfold right
  rw [hr]
  by_cases hn : c (79 + 2 * (1 - t) + k) < 0
  · rw [decide_eq_true hn]; rfl
  rw [decide_eq_false hn, Bool.false_or, Bool.false_or]
  unfold right' dir
  rw [hr, turnV_0]
  obtain ⟨f, hf⟩ : ∃ f : Nat, c (79 + 2 * (1 - t) + k) = (f : Int) := ⟨(c (79 + 2 * (1 - t) + k)).toNat, by omega⟩
  rw [hf, Int.toNat_natCast]
  have hf7 : f ≤ 7 := by omega
  have hsq : (turnV c (1 + (56 * t + f)) == 8 * (t : Int) + 4) = (c (1 + (56 * (1 - t) + f)) == 8 * ((1 - t : Nat) : Int) + 4) := by
    rw [turnV_sq' c _ (by omega), show flp (56 * t + f) = 56 * (1 - t) + f by unfold flp; omega]
    obtain ⟨x0, x1, h⟩ := sq_bd hc hp (56 * (1 - t) + f) (by omega)
    rcases (show t = 0 ∨ t = 1 by omega) with rfl | rfl
    · exact all8 (fun x => okL x = true → (tp2 x == 8 * ((0 : Nat) : Int) + 4) = (x == 8 * ((1 - 0 : Nat) : Int) + 4)) (by decide +kernel) _ x0 (by omega) h
    · exact all8 (fun x => okL x = true → (tp2 x == 8 * ((1 : Nat) : Int) + 4) = (x == 8 * ((1 - 1 : Nat) : Int) + 4)) (by decide +kernel) _ x0 (by omega) h
  rw [hsq]
  have e1 : (1 : Int) - (t : Int) = ((1 - t : Nat) : Int) := by omega
  rw [e1] at hfd
  unfold file
  by_cases hs : S.find c ((1 - t : Nat) : Int) 6 < 0
  · rw [if_pos hs] at hfd
    rw [hfd, decide_eq_false (show ¬ (0 ≤ -1 - 56 * (t : Int)) by omega), decide_eq_false (show ¬ (0 ≤ S.find c ((1 - t : Nat) : Int) 6 - 56 * ((1 - t : Nat) : Int)) by omega)]
    simp
  · rw [if_neg hs] at hfd
    obtain ⟨n, hnn⟩ : ∃ n : Nat, S.find c ((1 - t : Nat) : Int) 6 = (n : Int) := ⟨(S.find c ((1 - t : Nat) : Int) 6).toNat, by omega⟩
    have hn64 : n < 64 := by
      have hb := pos_bd hc
      have e := find_eq c ((1 - t : Nat) : Int) hb
      rw [hnn] at e
      unfold D.find at e
      rcases dfirst_spec (fun s => D.is c s ((1 - t : Nat) : Int) 6) 64 0 with ⟨h, _⟩ | ⟨j, _, h2, h3, _⟩ <;> omega
    rw [hnn, Int.toNat_natCast] at hfd
    rw [hfd, hnn]
    have key : (0 ≤ ((flp n : Nat) : Int) - 56 * (t : Int) ∧ ((flp n : Nat) : Int) - 56 * (t : Int) ≤ 7) ↔ (0 ≤ (n : Int) - 56 * ((1 - t : Nat) : Int) ∧ (n : Int) - 56 * ((1 - t : Nat) : Int) ≤ 7) := by
      unfold flp
      rcases (show t = 0 ∨ t = 1 by omega) with rfl | rfl <;> constructor <;> intro h <;> omega
    by_cases hin : 0 ≤ (n : Int) - 56 * ((1 - t : Nat) : Int) ∧ (n : Int) - 56 * ((1 - t : Nat) : Int) ≤ 7
    · have hin' := key.2 hin
      have e : ((flp n : Nat) : Int) - 56 * (t : Int) = (n : Int) - 56 * ((1 - t : Nat) : Int) := by
        unfold flp at hin' ⊢
        rcases (show t = 0 ∨ t = 1 by omega) with rfl | rfl <;> omega
      rw [e]
    · have hin' := fun h => hin (key.1 h)
      have b1 : (decide (0 ≤ ((flp n : Nat) : Int) - 56 * (t : Int)) && decide (((flp n : Nat) : Int) - 56 * (t : Int) ≤ 7)) = false := by
        rw [Bool.eq_false_iff]; intro h; simp only [Bool.and_eq_true, decide_eq_true_eq] at h; exact hin' h
      have b2 : (decide (0 ≤ (n : Int) - 56 * ((1 - t : Nat) : Int)) && decide ((n : Int) - 56 * ((1 - t : Nat) : Int) ≤ 7)) = false := by
        rw [Bool.eq_false_iff]; intro h; simp only [Bool.and_eq_true, decide_eq_true_eq] at h; exact hin h
      rw [b1, b2, Bool.false_and, Bool.false_and]
theorem passHit_turn (s : Nat) (hs : s < 64) : passHit (turnV c) (flp s) = passHit c s := by
  have hb := pos_bd hc
  have hb' := turnC_bd c hb
  have hl := (plain_split hp).2.1
  have hT := t01 hc hp
  have h78 := turn78 hc hp
  have key : ∀ a, a < 64 → bit (bAnd (K.by (turnV c) ((flp s : Nat) : Int) (turnV c 78)) (S.of (turnV c) (turnV c 78) 1)) (flp a) = bit (bAnd (K.by c (s : Int) (c 78)) (S.of c (c 78) 1)) a := fun a ha => by
    have ha' := flp_lt a ha
    rw [bit_and, bit_and, h78, (turn_bd hc hp).by, (turn_bd hc hp).of, by_eq _ _ _ hb' (by omega), by_eq _ _ _ hb (by omega), if_pos (by omega), if_pos (by omega), by_turn hb hl (c 78) s a hs ha,
      bit_is _ _ 1 (by omega) hb' _ ha', bit_is _ _ 1 (by omega) hb _ ha, is_turn hb hl (c 78) 1 (by omega) a ha]
  unfold passHit
  rw [U_ne, U_ne, decide_eq_decide]
  constructor
  · intro h e
    obtain ⟨j, hj, hbt⟩ := some_of h
    have := key (flp j) (flp_lt j hj)
    rw [flp_flp j hj, hbt, e, bit_zero] at this
    cases this
  · intro h e
    obtain ⟨j, hj, hbt⟩ := some_of h
    have := key j hj
    rw [hbt, e, bit_zero] at this
    cases this
theorem sq0_turn (j : Nat) (hj : j < 64) : (turnV c (1 + flp j) == 0) = (c (1 + j) == 0) := by
  obtain ⟨x0, x1, h⟩ := sq_bd hc hp j hj
  rw [turnV_sq c j hj]
  exact all8 (fun x => okL x = true → (tp2 x == 0) = (x == 0)) (by decide +kernel) _ x0 (by omega) h
theorem sq1_turn (j : Nat) (hj : j < 64) : (turnV c (1 + flp j) == 1) = (c (1 + j) == 9) := by
  obtain ⟨x0, x1, h⟩ := sq_bd hc hp j hj
  rw [turnV_sq c j hj]
  exact all8 (fun x => okL x = true → (tp2 x == 1) = (x == 9)) (by decide +kernel) _ x0 (by omega) h
theorem sq9_turn (j : Nat) (hj : j < 64) : (turnV c (1 + flp j) == 9) = (c (1 + j) == 1) := by
  obtain ⟨x0, x1, h⟩ := sq_bd hc hp j hj
  rw [turnV_sq c j hj]
  exact all8 (fun x => okL x = true → (tp2 x == 9) = (x == 1)) (by decide +kernel) _ x0 (by omega) h
theorem passAt_turn (s : Nat) (hs : s < 64) : passAt (turnV c) (flp s) = passAt c s := by
  have hh := passHit_turn hc hp s hs
  have h0 := sq0_turn hc hp s hs
  unfold passAt
  rw [turn78 hc hp, hh, h0]
  rcases t01 hc hp with e | e
  · rw [e, if_pos (by rfl), if_neg (by decide)]
    by_cases hr : s / 8 = 5
    · have hd : flp s / 8 = 2 := by unfold flp; omega
      have e1 : flp s - 8 = flp (s + 8) := by unfold flp; omega
      have e2 : flp s + 8 = flp (s - 8) := by unfold flp; omega
      rw [decide_eq_true hr, decide_eq_true hd, e1, e2, sq0_turn hc hp (s + 8) (by omega), sq1_turn hc hp (s - 8) (by omega)]
    · have hd : ¬ flp s / 8 = 2 := by unfold flp; omega
      rw [decide_eq_false hr, decide_eq_false hd, Bool.false_and, Bool.false_and]
  · rw [e, if_neg (by decide), if_pos rfl]
    by_cases hr : s / 8 = 2
    · have hd : flp s / 8 = 5 := by unfold flp; omega
      have e1 : flp s - 8 = flp (s + 8) := by unfold flp; omega
      have e2 : flp s + 8 = flp (s - 8) := by unfold flp; omega
      rw [decide_eq_true hr, decide_eq_true hd, e1, e2, sq9_turn hc hp (s + 8) (by omega), sq0_turn hc hp (s - 8) (by omega)]
    · have hd : ¬ flp s / 8 = 5 := by unfold flp; omega
      rw [decide_eq_false hr, decide_eq_false hd, Bool.false_and, Bool.false_and]
theorem passing_turn : passing (turnV c) = passing c := by
  obtain ⟨_, _, a3, a4⟩ := head_bd hp
  unfold passing
  rw [turnV_83]
  by_cases h : 0 ≤ c 83 ∧ c 83 < 64
  · rw [if_pos h, decide_eq_false (show ¬ ((flp (c 83).toNat : Nat) : Int) < 0 by omega), decide_eq_false (show ¬ c 83 < 0 by omega), Int.toNat_natCast, passAt_turn hc hp _ (by omega)]
  · rw [if_neg h, decide_eq_true (show c 83 < 0 by omega), Bool.true_or, Bool.true_or]
theorem checkK_turn (t : Int) (ht : t = 0 ∨ t = 1) (h7 : c 0 ≠ 7) (h1 : c 0 = 4 ∨ OneK c (1 - t)) : K.check (turnV c) t = K.check c (1 - t) := by
  have hb := pos_bd hc
  have hl := (plain_split hp).2.1
  by_cases h4 : c 0 = 4
  · have : ∀ (d : Nat → Int) (u : Int), d 0 = 4 → K.check d u = false := fun d u h => by
      unfold K.check K.kingOk V.royal
      rw [h]
      simp
    rw [this _ _ (by rw [turnV_0, h4]), this _ _ h4]
  · have h1 := h1.resolve_left h4
    have hk : K.check (turnV c) t = K.check (turnC c) t := by
      have hbd := turn_bd hc hp
      unfold K.check K.kingAt K.kingOk K.lost
      rw [hbd.find, hbd.of, hbd.on, turnV_0, turnC_0]
    rw [hk, check_eq _ _ (turnC_bd c hb) (by omega), check_eq _ _ hb (by omega)]
    have := check_turn hb hl (1 - t) (by omega) h7 h1
    rwa [show 1 - (1 - t) = t by omega] at this
theorem check_turnV (h7 : c 0 ≠ 7) (h1 : c 0 = 4 ∨ ∀ t : Int, t = 0 ∨ t = 1 → OneK c t) : check (turnV c) = check c := by
  have hT := t01 hc hp
  have h78 := turn78 hc hp
  have k1 := checkK_turn hc hp (1 - c 78) (by omega) h7 (h1.imp_right fun h => h _ (by omega))
  have k2 := checkK_turn hc hp (c 78) (by omega) h7 (h1.imp_right fun h => h _ (by omega))
  have k3 := cnt_turn hc hp (1 - c 78) (by omega)
  have e : 1 - (1 - c 78) = c 78 := by omega
  rw [e] at k1 k3
  unfold check over
  rw [h78, e, k1, k2, k3, turnV_0]
omit hp in
theorem oneK_kings (h : kings c = true) (h4 : c 0 ≠ 4) (t : Int) (ht : t = 0 ∨ t = 1) : OneK c t := by
  have hk : kingOk c t = true := by
    unfold kings at h
    rw [show (c 0 == 4) = false by simpa using h4, Bool.false_or, Bool.and_eq_true] at h
    rcases ht with rfl | rfl
    · exact h.1
    · exact h.2
  have hn : cnt c t ≤ 1 := by
    unfold kingOk at hk
    split at hk <;> simp at hk <;> omega
  unfold cnt at hn
  exact oneK_of c t (8 * t + 6) (pos_bd hc) (by rcases ht with rfl | rfl; exact .inl ⟨rfl, rfl⟩; exact .inr ⟨rfl, rfl⟩) hn
theorem rooks_turn (h1 : c 0 = 4 ∨ ∀ t : Int, t = 0 ∨ t = 1 → OneK c t) : rooks (turnV c) = rooks c := by
  have key : ∀ t k, t < 2 → k < 2 → right (turnV c) t k = right c (1 - t) k := fun t k ht hk => by
    rcases h1 with h4 | h1
    · unfold right right'
      rw [turnV_rook c t k ht hk, turnV_0, h4]
      rfl
    · exact right_turn hc hp t k ht hk (h1 _ (by omega))
  unfold rooks
  rw [key 0 0 (by omega) (by omega), key 0 1 (by omega) (by omega), key 1 0 (by omega) (by omega), key 1 1 (by omega) (by omega), Bool.and_comm]
end
theorem head_err (b : Bool) (n : Int) (l : List Int) : (err b n ++ l).headD 0 = if b = true then l.headD 0 else n := by
  cases b <;> rfl
/-- THE PLAIN LAW: colors and ranks turned about, the first error is the same. -/
theorem first_turn (c : Nat → Int) (hc : PosOk c) (h7 : c 0 ≠ 7) (h8 : ∀ j, j < 64 → c (1 + j) ≠ 8) : first (turnV c) = first c := by
  have hpe := plain_turn hc h8
  unfold first
  by_cases hp : plain c = true
  · unfold all
    rw [hpe, if_pos hp, if_pos hp]
    simp only [head_err]
    rw [show clocks (turnV c) = clocks c from rfl, kings_turn hc hp h7, pawns_turn hc hp h7, pockets_turn hc hp, passing_turn hc hp]
    cases hk : kings c
    · simp only [Bool.false_eq_true, if_false]
    · have h1 : c 0 = 4 ∨ ∀ t : Int, t = 0 ∨ t = 1 → OneK c t := by
        by_cases h4 : c 0 = 4
        · exact .inl h4
        · exact .inr (oneK_kings hc hk h4)
      rw [rooks_turn hc hp h1, check_turnV hc hp h7 h1]
  · unfold all
    rw [hpe, if_neg hp, if_neg hp]
theorem first_8 (c : Nat → Int) (j : Nat) (hj : j < 64) (h : c (1 + j) = 8) : first c = 2 := by
  have : plain c = false := by
    rw [Bool.eq_false_iff]
    intro hp
    have := (lawB_iff c).1 (plain_split hp).2.1 j hj
    rw [h] at this
    revert this
    decide +kernel
  unfold first
  rw [all_arg c this]
  rfl
end Y
end Go.Proofs.YtlphjjekamhnlaaDoor
