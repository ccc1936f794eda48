/- Positions that may be: what is asked of one, in plain Lean; a position mended. No walk. -/
import Derived.Test.YtlphjjekamhnlaaDoorTurn08
import Derived.Test.YtlphjjekamhnlaaDoorStart
import Derived.Test.YtlphjjekamhnlaaDoorSameB
namespace Go.Proofs.YtlphjjekamhnlaaDoor
open Go.RowKit Go.Sort

theorem pos_u64 {c : Nat → Int} (hc : PosOk c) : 0 ≤ c 65 ∧ c 65 < 18446744073709551616 := by
  have := hc 65 (by decide)
  have e : pk 65 = .u64 := rfl
  rw [e] at this
  have := bounds_u64 this
  omega

namespace Y
def rookOk (f : Int) : Bool := decide (-1 ≤ f) && decide (f ≤ 7)
def chk (v n : Int) : Bool := decide (n ≤ 3) && (n == 0 || v == 5)
def side (c : Nat → Int) (k : Nat) : Bool := rookOk (c (79 + 2 * k)) && (rookOk (c (80 + 2 * k)) && chk (c 0) (c (84 + k)))
def head (c : Nat → Int) : Bool := decide (c 0 < 9) && (decide (c 78 ≤ 1) && (decide (-1 ≤ c 83) && decide (c 83 < 64)))
/-- ErrArg is not wrong. -/
def plain (c : Nat → Int) : Bool := head c && (lawB c && (side c 0 && side c 1))
def clocks (c : Nat → Int) : Bool := decide (0 ≤ c 86) && (decide (c 86 ≤ 10000) && (decide (1 ≤ c 87) && decide (c 87 ≤ 10000)))
def cnt (c : Nat → Int) (t : Int) : Nat := cntTo c (8 * t + 6) 64
def kingOk (c : Nat → Int) (t : Int) : Bool :=
  if V.royal (c 0) t = true then cnt c t == 1 || (cnt c t == 0 && (c 0 == 3 && c 78 == t)) else cnt c t == 0
def kings (c : Nat → Int) : Bool := c 0 == 4 || (kingOk c 0 && kingOk c 1)
def pawnOk (v : Int) (s : Nat) (x : Int) : Bool := P.kind x != 1 || (v != 8 && (decide (s ≤ 55) && (decide (8 ≤ s) || (v == 7 && x == 1))))
def pawnsTo (c : Nat → Int) : Nat → Bool
  | 0 => true
  | n + 1 => pawnsTo c n && pawnOk (c 0) n (c (1 + n))
def pawns (c : Nat → Int) : Bool := pawnsTo c 64
def prom (c : Nat → Int) : BitVec 64 := BitVec.ofInt 64 (c 65)
def promOk (m : BitVec 64) (s : Nat) (x : Int) : Bool := !bit m s || (decide (2 ≤ P.kind x) && decide (P.kind x ≤ 5))
def promTo (c : Nat → Int) : Nat → Bool
  | 0 => true
  | n + 1 => promTo c n && promOk (prom c) n (c (1 + n))
def menTo (c : Nat → Int) : Nat → Nat
  | 0 => 0
  | n + 1 => if c (1 + n) == 0 then menTo c n else menTo c n + 1
/-- The first n numbers of the pockets. -/
def heldTo (c : Nat → Int) : Nat → Int
  | 0 => 0
  | n + 1 => heldTo c n + c (66 + n)
def pk0 (c : Nat → Int) : Bool := (List.range 12).all fun i => c (66 + i) == 0
def pockets (c : Nat → Int) : Bool :=
  if c 0 = 2 then promTo c 64 && (c 66 == 0 && (c 72 == 0 && decide ((menTo c 64 : Int) + heldTo c 12 ≤ 32))) else pk0 c && c 65 == 0
def file (c : Nat → Int) (t : Nat) : Int := S.find c t 6 - 56 * t
def dir (c : Nat → Int) (t k : Nat) : Bool := if k = 0 then decide (file c t < c (79 + 2 * t + k)) else decide (c (79 + 2 * t + k) < file c t)
def right' (c : Nat → Int) (t k : Nat) : Bool :=
  V.castles (c 0) && ((decide (0 ≤ file c t) && decide (file c t ≤ 7)) && ((c (1 + (56 * t + (c (79 + 2 * t + k)).toNat)) == 8 * t + 4) && ((c 0 == 1 || (file c t == 4 && c (79 + 2 * t + k) == 7 - 7 * k)) && dir c t k)))
def right (c : Nat → Int) (t k : Nat) : Bool := decide (c (79 + 2 * t + k) < 0) || right' c t k
def rooks (c : Nat → Int) : Bool := (right c 0 0 && right c 0 1) && (right c 1 0 && right c 1 1)
def passHit (c : Nat → Int) (s : Nat) : Bool := U (bAnd (K.by c s (c 78)) (S.of c (c 78) 1)) != 0
def passAt (c : Nat → Int) (s : Nat) : Bool :=
  if c 78 = 1 then decide (s / 8 = 2) && (c (1 + s) == 0 && (c (1 + (s - 8)) == 0 && (c (1 + (s + 8)) == 1 && passHit c s)))
  else decide (s / 8 = 5) && (c (1 + s) == 0 && (c (1 + (s + 8)) == 0 && (c (1 + (s - 8)) == 9 && passHit c s)))
def passing (c : Nat → Int) : Bool := decide (c 83 < 0) || passAt c (c 83).toNat
def over (c : Nat → Int) : Bool := c 0 == 3 && cnt c (c 78) == 0
def check (c : Nat → Int) : Bool := !(c 0 == 8 && K.check c (c 78)) && (over c || !K.check c (1 - c 78))
def err (b : Bool) (n : Int) : List Int := if b = true then [] else [n]
/-- All that is wrong, in order. -/
def all (c : Nat → Int) : List Int :=
  if plain c = true then err (clocks c) 125 ++ (err (kings c) 120 ++ (err (pawns c) 121 ++ (err (pockets c) 122 ++ (err (rooks c) 123 ++ (err (passing c) 124 ++ err (check c) 126))))) else [2]
/-- The first of these. -/
def first (c : Nat → Int) : Int := (all c).headD 0
def near (n a b : Int) : Int := if n < a then a else if b < n then b else n
def mend1 (c0 : Nat → Int) (c : Nat → Int) (t k : Nat) : Nat → Int := if right c0 t k = true then c else upd c (79 + 2 * t + k) (-1)
def mendR (c : Nat → Int) : Nat → Int := mend1 c (mend1 c (mend1 c (mend1 c c 0 0) 0 1) 1 0) 1 1
def mendP (c : Nat → Int) : Nat → Int := if passing c = true then mendR c else upd (mendR c) 83 (-1)
/-- A position mended. -/
def mend (c : Nat → Int) : Nat → Int := if plain c = true then upd (upd (mendP c) 86 (near (c 86) 0 10000)) 87 (near (c 87) 1 10000) else c

/-! What is mended, and what is left. -/
theorem mend1_other (c0 c : Nat → Int) (t k i : Nat) (h : i ≠ 79 + 2 * t + k) : mend1 c0 c t k i = c i := by
  unfold mend1
  split
  · rfl
  · exact upd_other _ _ _ _ h
theorem mend1_at (c0 c : Nat → Int) (t k : Nat) : mend1 c0 c t k (79 + 2 * t + k) = if right c0 t k = true then c (79 + 2 * t + k) else -1 := by
  unfold mend1
  split
  · rfl
  · exact upd_same _ _ _
theorem mendR_other (c : Nat → Int) (i : Nat) (h : i < 79 ∨ 82 < i) : mendR c i = c i := by
  unfold mendR
  rw [mend1_other _ _ _ _ _ (by omega), mend1_other _ _ _ _ _ (by omega), mend1_other _ _ _ _ _ (by omega), mend1_other _ _ _ _ _ (by omega)]
theorem mendR_at (c : Nat → Int) (t k : Nat) (ht : t < 2) (hk : k < 2) : mendR c (79 + 2 * t + k) = if right c t k = true then c (79 + 2 * t + k) else -1 := by
  unfold mendR
  rcases (show (t = 0 ∧ k = 0) ∨ (t = 0 ∧ k = 1) ∨ (t = 1 ∧ k = 0) ∨ (t = 1 ∧ k = 1) by omega) with ⟨rfl, rfl⟩ | ⟨rfl, rfl⟩ | ⟨rfl, rfl⟩ | ⟨rfl, rfl⟩
  · rw [mend1_other _ _ 1 1 _ (by omega), mend1_other _ _ 1 0 _ (by omega), mend1_other _ _ 0 1 _ (by omega), mend1_at]
  · rw [mend1_other _ _ 1 1 _ (by omega), mend1_other _ _ 1 0 _ (by omega), mend1_at, mend1_other _ _ 0 0 _ (by omega)]
  · rw [mend1_other _ _ 1 1 _ (by omega), mend1_at, mend1_other _ _ 0 1 _ (by omega), mend1_other _ _ 0 0 _ (by omega)]
  · rw [mend1_at, mend1_other _ _ 1 0 _ (by omega), mend1_other _ _ 0 1 _ (by omega), mend1_other _ _ 0 0 _ (by omega)]
theorem mendP_other (c : Nat → Int) (i : Nat) (h : i ≠ 83) : mendP c i = mendR c i := by
  unfold mendP
  split
  · rfl
  · exact upd_other _ _ _ _ h
theorem mendP_at (c : Nat → Int) : mendP c 83 = if passing c = true then c 83 else -1 := by
  unfold mendP
  split
  · exact mendR_other c 83 (by omega)
  · exact upd_same _ _ _
theorem mend_low (c : Nat → Int) (i : Nat) (h : i < 79 ∨ i = 84 ∨ i = 85 ∨ 87 < i) : mend c i = c i := by
  unfold mend
  split
  · rw [upd_other _ _ _ _ (by omega), upd_other _ _ _ _ (by omega), mendP_other _ _ (by omega), mendR_other _ _ (by omega)]
  · rfl
theorem mend_right (c : Nat → Int) (hp : plain c = true) (t k : Nat) (ht : t < 2) (hk : k < 2) : mend c (79 + 2 * t + k) = if right c t k = true then c (79 + 2 * t + k) else -1 := by
  unfold mend
  rw [if_pos hp, upd_other _ _ _ _ (by omega), upd_other _ _ _ _ (by omega), mendP_other _ _ (by omega), mendR_at c t k ht hk]
theorem mend_passing (c : Nat → Int) (hp : plain c = true) : mend c 83 = if passing c = true then c 83 else -1 := by
  unfold mend
  rw [if_pos hp, upd_other _ _ _ _ (by omega), upd_other _ _ _ _ (by omega), mendP_at]
theorem mend_half (c : Nat → Int) (hp : plain c = true) : mend c 86 = near (c 86) 0 10000 := by
  unfold mend
  rw [if_pos hp, upd_other _ _ _ _ (by omega), upd_same]
theorem mend_full (c : Nat → Int) (hp : plain c = true) : mend c 87 = near (c 87) 1 10000 := by
  unfold mend
  rw [if_pos hp, upd_same]

/-- The same variant, board, promoted ones, pockets, turn. -/
def Low (c c' : Nat → Int) : Prop := ∀ i, i < 79 → c i = c' i
theorem Low.bd {c c' : Nat → Int} (h : Low c c') : SameBd c c' := fun s hs => h _ (by omega)
theorem Low.cntTo {c c' : Nat → Int} (h : Low c c') (x : Int) : ∀ n, n ≤ 64 → Go.Proofs.YtlphjjekamhnlaaDoor.cntTo c x n = Go.Proofs.YtlphjjekamhnlaaDoor.cntTo c' x n
  | 0, _ => rfl
  | n + 1, hn => by
    have ih := h.cntTo x n (by omega)
    unfold Go.Proofs.YtlphjjekamhnlaaDoor.cntTo
    rw [h (1 + n) (by omega), ih]
theorem Low.cnt {c c' : Nat → Int} (h : Low c c') (t : Int) : cnt c t = cnt c' t := h.cntTo _ 64 (Nat.le_refl _)
theorem Low.kings {c c' : Nat → Int} (h : Low c c') : kings c = kings c' := by
  unfold Y.kings kingOk
  rw [h.cnt, h.cnt, h 0 (by omega), h 78 (by omega)]
theorem Low.pawnsTo {c c' : Nat → Int} (h : Low c c') : ∀ n, n ≤ 64 → pawnsTo c n = pawnsTo c' n
  | 0, _ => rfl
  | n + 1, hn => by
    have ih := h.pawnsTo n (by omega)
    unfold Y.pawnsTo
    rw [ih, h 0 (by omega), h (1 + n) (by omega)]
theorem Low.promTo {c c' : Nat → Int} (h : Low c c') : ∀ n, n ≤ 64 → promTo c n = promTo c' n
  | 0, _ => rfl
  | n + 1, hn => by
    have ih := h.promTo n (by omega)
    unfold Y.promTo prom
    rw [ih, h 65 (by omega), h (1 + n) (by omega)]
theorem Low.menTo {c c' : Nat → Int} (h : Low c c') : ∀ n, n ≤ 64 → menTo c n = menTo c' n
  | 0, _ => rfl
  | n + 1, hn => by
    have ih := h.menTo n (by omega)
    unfold Y.menTo
    rw [ih, h (1 + n) (by omega)]
theorem Low.heldTo {c c' : Nat → Int} (h : Low c c') : ∀ n, n ≤ 12 → heldTo c n = heldTo c' n
  | 0, _ => rfl
  | n + 1, hn => by
    have ih := h.heldTo n (by omega)
    unfold Y.heldTo
    rw [ih, h (66 + n) (by omega)]
theorem Low.pk0 {c c' : Nat → Int} (h : Low c c') : pk0 c = pk0 c' := by
  unfold Y.pk0
  rw [Bool.eq_iff_iff, List.all_eq_true, List.all_eq_true]
  constructor
  · intro g i hi
    have := g i hi
    rw [List.mem_range] at hi
    rwa [h _ (by omega)] at this
  · intro g i hi
    have := g i hi
    rw [List.mem_range] at hi
    rwa [← h _ (by omega)] at this
theorem Low.pockets {c c' : Nat → Int} (h : Low c c') : pockets c = pockets c' := by
  unfold Y.pockets
  rw [h.promTo 64 (by omega), h.menTo 64 (by omega), h.heldTo 12 (by omega), h.pk0, h 0 (by omega), h 65 (by omega), h 66 (by omega), h 72 (by omega)]
theorem Low.file {c c' : Nat → Int} (h : Low c c') (t : Nat) : file c t = file c' t := by unfold Y.file; rw [h.bd.find]
theorem Low.right {c c' : Nat → Int} (h : Low c c') (t k : Nat) (ht : t < 2) (hr : c (79 + 2 * t + k) = c' (79 + 2 * t + k)) (h7 : c (79 + 2 * t + k) ≤ 7) : right c t k = right c' t k := by
  unfold Y.right right' dir
  rw [h.file, h 0 (by omega), hr, h (1 + (56 * t + (c' (79 + 2 * t + k)).toNat)) (by omega)]
theorem Low.kingOk' {c c' : Nat → Int} (h : Low c c') (t : Int) : K.kingOk c t = K.kingOk c' t := by
  unfold K.kingOk K.lost
  rw [h.bd.find, h.bd.of, h 0 (by omega)]
theorem Low.check' {c c' : Nat → Int} (h : Low c c') (t : Int) : K.check c t = K.check c' t := by
  unfold K.check K.kingAt
  rw [h.kingOk', h.bd.find, h.bd.on]
theorem Low.check {c c' : Nat → Int} (h : Low c c') : check c = check c' := by
  unfold Y.check over
  rw [h.check', h.check', h.cnt, h 0 (by omega), h 78 (by omega)]
theorem Low.passAt {c c' : Nat → Int} (h : Low c c') (s : Nat) (hs : s < 64) : passAt c s = passAt c' s := by
  unfold Y.passAt passHit
  rw [h.bd.by, h.bd.of, h 78 (by omega), h (1 + s) (by omega), h (1 + (s - 8)) (by omega)]
  by_cases h8 : s + 8 < 64
  · rw [h (1 + (s + 8)) (by omega)]
  · by_cases h1 : c' 78 = 1
    · rw [if_pos h1, if_pos h1, decide_eq_false (show ¬ s / 8 = 2 by omega), Bool.false_and, Bool.false_and]
    · rw [if_neg h1, if_neg h1, decide_eq_false (show ¬ s / 8 = 5 by omega), Bool.false_and, Bool.false_and]
theorem low_mend (c : Nat → Int) : Low (mend c) c := fun i hi => mend_low c i (.inl hi)
theorem rookOk_one : rookOk (-1) = true := rfl
theorem lawB_low {c c' : Nat → Int} (h : Low c c') : lawB c = lawB c' := by
  rw [Bool.eq_iff_iff, lawB_iff, lawB_iff]
  exact ⟨fun g j hj => by have := g j hj; rwa [h _ (by omega)] at this, fun g j hj => by have := g j hj; rwa [← h _ (by omega)] at this⟩
theorem plain_split {c : Nat → Int} (h : plain c = true) : head c = true ∧ lawB c = true ∧ side c 0 = true ∧ side c 1 = true := by
  unfold plain at h
  simp only [Bool.and_eq_true] at h
  exact ⟨h.1, h.2.1, h.2.2.1, h.2.2.2⟩
theorem side_rook {c : Nat → Int} (h : plain c = true) (t k : Nat) (ht : t < 2) (hk : k < 2) : -1 ≤ c (79 + 2 * t + k) ∧ c (79 + 2 * t + k) ≤ 7 := by
  obtain ⟨_, _, h0, h1⟩ := plain_split h
  unfold side rookOk at h0 h1
  simp only [Bool.and_eq_true, decide_eq_true_eq] at h0 h1
  rcases (show (t = 0 ∧ k = 0) ∨ (t = 0 ∧ k = 1) ∨ (t = 1 ∧ k = 0) ∨ (t = 1 ∧ k = 1) by omega) with ⟨rfl, rfl⟩ | ⟨rfl, rfl⟩ | ⟨rfl, rfl⟩ | ⟨rfl, rfl⟩
  · exact h0.1
  · exact h0.2.1
  · exact h1.1
  · exact h1.2.1
theorem head_bd {c : Nat → Int} (h : plain c = true) : c 0 < 9 ∧ c 78 ≤ 1 ∧ -1 ≤ c 83 ∧ c 83 < 64 := by
  have := (plain_split h).1
  unfold head at this
  simpa using this
theorem rook_mend (c : Nat → Int) (h : plain c = true) (t k : Nat) (ht : t < 2) (hk : k < 2) : rookOk (mend c (79 + 2 * t + k)) = true := by
  rw [mend_right c h t k ht hk]
  split
  · obtain ⟨a, b⟩ := side_rook h t k ht hk
    unfold rookOk
    rw [decide_eq_true a, decide_eq_true b]; rfl
  · rfl
theorem plain_mend (c : Nat → Int) (h : plain c = true) : plain (mend c) = true := by
  have hl := low_mend c
  obtain ⟨h1, h2, h3, h4⟩ := plain_split h
  obtain ⟨a1, a2, a3, a4⟩ := head_bd h
  unfold plain
  rw [lawB_low hl, h2]
  have e1 : head (mend c) = true := by
    unfold head
    rw [hl 0 (by omega), hl 78 (by omega), mend_passing c h]
    split <;> simp <;> omega
  have e2 : ∀ k, k < 2 → side c k = true → side (mend c) k = true := fun k hk hs => by
    have r0 := rook_mend c h k 0 hk (by omega)
    have r1 := rook_mend c h k 1 hk (by omega)
    unfold side at hs ⊢
    rw [show 80 + 2 * k = 79 + 2 * k + 1 by omega, r1, show 79 + 2 * k = 79 + 2 * k + 0 by omega, r0, mend_low c (84 + k) (by omega), hl 0 (by omega)]
    simp only [Bool.and_eq_true] at hs
    simpa using hs.2.2
  rw [e1, e2 0 (by omega) h3, e2 1 (by omega) h4]
  rfl
theorem right_mend (c : Nat → Int) (h : plain c = true) (t k : Nat) (ht : t < 2) (hk : k < 2) : right (mend c) t k = true := by
  have hm := mend_right c h t k ht hk
  by_cases hr : right c t k = true
  · rw [if_pos hr] at hm
    rw [(low_mend c).right t k ht hm (by rw [hm]; exact (side_rook h t k ht hk).2), hr]
  · rw [if_neg hr] at hm
    unfold right
    rw [hm]
    rfl
theorem passing_mend (c : Nat → Int) (h : plain c = true) : passing (mend c) = true := by
  have hm := mend_passing c h
  obtain ⟨a1, a2, a3, a4⟩ := head_bd h
  by_cases hr : passing c = true
  · rw [if_pos hr] at hm
    unfold passing at hr ⊢
    rw [hm]
    by_cases hn : c 83 < 0
    · rw [decide_eq_true hn]; rfl
    · rw [decide_eq_false hn] at hr ⊢
      rw [(low_mend c).passAt _ (by omega)]
      exact hr
  · rw [if_neg hr] at hm
    unfold passing
    rw [hm]
    rfl
theorem near_bd (n a b : Int) (h : a ≤ b) : a ≤ near n a b ∧ near n a b ≤ b := by unfold near; split <;> (try split) <;> omega
theorem near_in (n a b : Int) (h1 : a ≤ n) (h2 : n ≤ b) : near n a b = n := by unfold near; rw [if_neg (by omega), if_neg (by omega)]
theorem clocks_mend (c : Nat → Int) (h : plain c = true) : clocks (mend c) = true := by
  unfold clocks
  rw [mend_half c h, mend_full c h]
  have h1 := near_bd (c 86) 0 10000 (by omega)
  have h2 := near_bd (c 87) 1 10000 (by omega)
  simp
  omega
theorem rooks_mend (c : Nat → Int) (h : plain c = true) : rooks (mend c) = true := by
  unfold rooks
  rw [right_mend c h 0 0 (by omega) (by omega), right_mend c h 0 1 (by omega) (by omega), right_mend c h 1 0 (by omega) (by omega), right_mend c h 1 1 (by omega) (by omega)]
  rfl
/-- What is wrong behind Mend. -/
theorem all_mend (c : Nat → Int) (h : plain c = true) : all (mend c) = err (kings c) 120 ++ (err (pawns c) 121 ++ (err (pockets c) 122 ++ err (check c) 126)) := by
  have hl := low_mend c
  unfold all
  rw [if_pos (plain_mend c h), clocks_mend c h, rooks_mend c h, passing_mend c h, hl.kings, hl.pockets, hl.check, show pawns (mend c) = pawns c from hl.pawnsTo 64 (by omega)]
  rfl
/-- The errors that stay. -/
def stays (n : Int) : Bool := !(n == 123 || n == 124 || n == 125)
theorem err_stays (b : Bool) (n : Int) : (err b n).filter stays = if stays n = true then err b n else [] := by
  unfold err
  cases b
  · rw [if_neg (by decide)]
    cases h : stays n
    · rw [List.filter_cons_of_neg (by rw [h]; decide)]; rfl
    · rw [List.filter_cons_of_pos h]; rfl
  · simp
theorem all_filter (c : Nat → Int) (h : plain c = true) : (all c).filter stays = all (mend c) := by
  rw [all_mend c h]
  unfold all
  rw [if_pos h]
  simp only [List.filter_append, err_stays]
  rfl
/-- Mended again nothing changes. -/
theorem mend_mend (c : Nat → Int) : mend (mend c) = mend c := by
  by_cases h : plain c = true
  · have hp := plain_mend c h
    funext i
    by_cases h0 : i < 79 ∨ i = 84 ∨ i = 85 ∨ 87 < i
    · rw [mend_low _ i h0]
    · have hr : ∀ t k, t < 2 → k < 2 → mend (mend c) (79 + 2 * t + k) = mend c (79 + 2 * t + k) := fun t k ht hk => by rw [mend_right _ hp t k ht hk, if_pos (right_mend c h t k ht hk)]
      rcases (show i = 79 + 2 * 0 + 0 ∨ i = 79 + 2 * 0 + 1 ∨ i = 79 + 2 * 1 + 0 ∨ i = 79 + 2 * 1 + 1 ∨ i = 83 ∨ i = 86 ∨ i = 87 by omega) with e | e | e | e | e | e | e
      · rw [e]; exact hr 0 0 (by omega) (by omega)
      · rw [e]; exact hr 0 1 (by omega) (by omega)
      · rw [e]; exact hr 1 0 (by omega) (by omega)
      · rw [e]; exact hr 1 1 (by omega) (by omega)
      · rw [e, mend_passing _ hp, if_pos (passing_mend c h)]
      · rw [e, mend_half _ hp, mend_half c h]
        have h1 := near_bd (c 86) 0 10000 (by omega)
        exact near_in _ _ _ h1.1 h1.2
      · rw [e, mend_full _ hp, mend_full c h]
        have h2 := near_bd (c 87) 1 10000 (by omega)
        exact near_in _ _ _ h2.1 h2.2
  · have e : mend c = c := by unfold mend; rw [if_neg h]
    rw [e, e]
theorem err_nil {b : Bool} {n : Int} (h : err b n = []) : b = true := by
  cases b
  · cases h
  · rfl
theorem all_nil {c : Nat → Int} (h : all c = []) : plain c = true ∧ clocks c = true ∧ kings c = true ∧ pawns c = true ∧ pockets c = true ∧ rooks c = true ∧ passing c = true ∧ check c = true := by
  unfold all at h
  by_cases hp : plain c = true
  · rw [if_pos hp] at h
    simp only [List.append_eq_nil_iff] at h
    obtain ⟨h1, h2, h3, h4, h5, h6, h7⟩ := h
    exact ⟨hp, err_nil h1, err_nil h2, err_nil h3, err_nil h4, err_nil h5, err_nil h6, err_nil h7⟩
  · rw [if_neg hp] at h; cases h
/-- What may be is as it was. -/
theorem mend_well (c : Nat → Int) (h : all c = []) : mend c = c := by
  obtain ⟨hp, h1, _, _, _, h5, h6, _⟩ := all_nil h
  unfold rooks at h5
  simp only [Bool.and_eq_true] at h5
  unfold clocks at h1
  simp only [Bool.and_eq_true, decide_eq_true_eq] at h1
  funext i
  by_cases h0 : i < 79 ∨ i = 84 ∨ i = 85 ∨ 87 < i
  · rw [mend_low _ i h0]
  · rcases (show i = 79 + 2 * 0 + 0 ∨ i = 79 + 2 * 0 + 1 ∨ i = 79 + 2 * 1 + 0 ∨ i = 79 + 2 * 1 + 1 ∨ i = 83 ∨ i = 86 ∨ i = 87 by omega) with e | e | e | e | e | e | e
    · rw [e, mend_right c hp 0 0 (by omega) (by omega), if_pos h5.1.1]
    · rw [e, mend_right c hp 0 1 (by omega) (by omega), if_pos h5.1.2]
    · rw [e, mend_right c hp 1 0 (by omega) (by omega), if_pos h5.2.1]
    · rw [e, mend_right c hp 1 1 (by omega) (by omega), if_pos h5.2.2]
    · rw [e, mend_passing c hp, if_pos h6]
    · rw [e, mend_half c hp, near_in _ _ _ h1.1 h1.2.1]
    · rw [e, mend_full c hp, near_in _ _ _ h1.2.2.1 h1.2.2.2]
theorem mend_arg (c : Nat → Int) (h : plain c = false) : mend c = c := by unfold mend; rw [if_neg (by simp [h])]
theorem all_arg (c : Nat → Int) (h : plain c = false) : all c = [2] := by unfold all; rw [if_neg (by simp [h])]
theorem all_no2 (c : Nat → Int) (h : plain c = true) : ∀ n, n ∈ all c → 120 ≤ n ∧ n ≤ 126 := by
  intro n hn
  unfold all at hn
  rw [if_pos h] at hn
  unfold err at hn
  simp only [List.mem_append] at hn
  have key : ∀ (b : Bool) (m : Int), 120 ≤ m → m ≤ 126 → n ∈ (if b = true then [] else [m]) → 120 ≤ n ∧ n ≤ 126 := fun b m h1 h2 hm => by
    cases b
    · simp at hm; omega
    · simp at hm
  rcases hn with hn | hn | hn | hn | hn | hn | hn <;> exact key _ _ (by omega) (by omega) hn
end Y
end Go.Proofs.YtlphjjekamhnlaaDoor
