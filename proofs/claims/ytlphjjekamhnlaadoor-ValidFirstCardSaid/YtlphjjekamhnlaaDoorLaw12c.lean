/- The laws of layer 12: ValidTurned. -/
import Derived.Test.YtlphjjekamhnlaaDoorLaw12b
namespace Go.Proofs.YtlphjjekamhnlaaDoor
open Go.RowKit Go.Sort
attribute [local go_sem] Oper.semAt_some

theorem posC_congr {c d : Nat → Int} (h : ∀ i, i < 88 → c i = d i) : posC c = posC d := by
  unfold posC posL
  congr 1
  apply List.map_congr_left
  intro i hi
  rw [h i (by simpa using hi)]
theorem PosAt.congr {w : World} {g : Nat} {c d : Nat → Int} (hp : PosAt w g c) (h : ∀ i, i < 88 → c i = d i) : PosAt w g d := ⟨by rw [← posC_congr h]; exact hp.heap⟩
/-- Several cells of a position, one behind the other. -/
def updL (c : Nat → Int) : Nat → List Int → Nat → Int
  | _, [] => c
  | o, n :: l => updL (upd c o n) (o + 1) l
def valL : Nat → List Int → List Value
  | _, [] => []
  | o, n :: l => .int (pk o) n :: valL (o + 1) l
theorem valL_len : ∀ (l : List Int) (o : Nat), (valL o l).length = l.length
  | [], _ => rfl
  | n :: l, o => by rw [valL, List.length_cons, valL_len l, List.length_cons]
theorem valL_one : ∀ (l : List Int) (o : Nat), ∀ v ∈ valL o l, v.oneCell' = true
  | [], _, _, h => by cases h
  | n :: l, o, v, h => by
    rw [valL, List.mem_cons] at h
    rcases h with rfl | h
    · rfl
    · exact valL_one l _ v h
theorem setCells_pos : ∀ (l : List Int) (o : Nat) (w : World) (g : Nat) (c : Nat → Int), PosAt w g c → o + l.length ≤ 88 → Put g w (w.setCells g o (valL o l)) ∧ PosAt (w.setCells g o (valL o l)) g (updL c o l)
  | [], _, w, g, _, hp, _ => ⟨Put.refl g w, hp⟩
  | n :: l, o, w, g, c, hp, h => by
    rw [List.length_cons] at h
    obtain ⟨h1, h2⟩ := setCells_pos l (o + 1) (w.setCell ⟨g, o, none⟩ (.int (pk o) n)) g (upd c o n) (hp.setCell (by omega) rfl n) (by omega)
    exact ⟨(put_setCell w g o _).trans h1, h2⟩
theorem wp_store_cells {ops : Array Oper} {rest : List Oper} {o : Oper} {a : Act} {w : World} {Q : Exit → Act → World → Prop} (hgd : o.guard = none) (ty : TypeId) (x y : Operand) (ho : o.op = .store ty x y)
    (h : ∃ (g i : Nat) (l : List Int) (c : Nat → Int), a.eval x = .pointer (some ⟨g, i, none⟩) ∧ a.eval y = .agg (valL i l).toArray ∧ PosAt w g c ∧ i + l.length ≤ 88 ∧ (Tryd.prog.info? ty).map (·.size) = some l.length ∧
      ∀ W' : World, Put g w W' → PosAt W' g (updL c i l) → wpList Tryd.prog ops Q rest (a.put o.dst undef) W') : wpList Tryd.prog ops Q (o :: rest) a w := by
  obtain ⟨g, i, l, c, hx, hy, hp, hi, hs, h⟩ := h
  obtain ⟨h1, h2⟩ := setCells_pos l i w g c hp hi
  refine wpList_store_mid hgd ty x y ho g i (valL i l).toArray hx hy (fun j hj => ?_) (by rw [hs]; simp [valL_len]) (all_oneCell_toArray (valL_one l i)) ?_
  · have hj' : j < l.length := by simpa [valL_len] using hj
    exact ⟨by rw [hp.cellK (i + j) (by omega) _ rfl]; rfl, hp.frozen _⟩
  · exact h _ h1 h2
theorem Tryd.size_i4 : (Tryd.prog.info? 28).map (·.size) = some 4 := by kernel_rfl
theorem Tryd.size_u2 : (Tryd.prog.info? 29).map (·.size) = some 2 := by kernel_rfl
theorem Tryd.size_p12 : (Tryd.prog.info? 25).map (·.size) = some 12 := by kernel_rfl
theorem Tryd.size_u64T : (Tryd.prog.info? 23).map (·.size) = some 1 := by kernel_rfl
theorem range6 {w : World} {g : Nat} {c : Nat → Int} (h : PosAt w g c) (o : Nat) (ho : o = 66 ∨ o = 72) : w.rangeAt g o [.int .u8 (c o), .int .u8 (c (o + 1)), .int .u8 (c (o + 2)), .int .u8 (c (o + 3)), .int .u8 (c (o + 4)), .int .u8 (c (o + 5))] := fun j v hj => by
  have hj6 : j < 6 := by have := (List.getElem?_eq_some_iff.1 hj).1; simpa using this
  have hpk : pk (o + j) = .u8 := by unfold pk; rw [if_neg (by omega), if_neg (by omega), if_pos (by omega)]
  rw [h.cellK (o + j) (by omega) .u8 hpk]
  rcases (show j = 0 ∨ j = 1 ∨ j = 2 ∨ j = 3 ∨ j = 4 ∨ j = 5 by omega) with rfl | rfl | rfl | rfl | rfl | rfl <;> exact hj
theorem range2 {w : World} {g : Nat} {c : Nat → Int} (h : PosAt w g c) (o : Nat) (ho : o = 79 ∨ o = 81) : w.rangeAt g o [.int .i8 (c o), .int .i8 (c (o + 1))] := fun j v hj => by
  have hj6 : j < 2 := by have := (List.getElem?_eq_some_iff.1 hj).1; simpa using this
  have hpk : pk (o + j) = .i8 := by unfold pk; rw [if_neg (by omega), if_neg (by omega), if_neg (by omega), if_pos (by omega)]
  rw [h.cellK (o + j) (by omega) .i8 hpk]
  rcases (show j = 0 ∨ j = 1 by omega) with rfl | rfl <;> exact hj
theorem Tryd.size_i2 : (Tryd.prog.info? 27).map (·.size) = some 2 := by kernel_rfl
theorem Tryd.size_u6 : (Tryd.prog.info? 24).map (·.size) = some 6 := by kernel_rfl
theorem Tryd.built_i4 (a b c d : Int) : Tryd.prog.built 28 [(0, .agg #[.int .i8 a, .int .i8 b]), (1, .agg #[.int .i8 c, .int .i8 d])] = some #[.int .i8 a, .int .i8 b, .int .i8 c, .int .i8 d] := by kernel_rfl
theorem Tryd.built_u2 (a b : Int) : Tryd.prog.built 29 [(0, .int .u8 a), (1, .int .u8 b)] = some #[.int .u8 a, .int .u8 b] := by kernel_rfl
theorem Tryd.built_p12 (a b c d e f a' b' c' d' e' f' : Int) : Tryd.prog.built 25 [(0, .agg #[.int .u8 a, .int .u8 b, .int .u8 c, .int .u8 d, .int .u8 e, .int .u8 f]), (1, .agg #[.int .u8 a', .int .u8 b', .int .u8 c', .int .u8 d', .int .u8 e', .int .u8 f'])] = some #[.int .u8 a, .int .u8 b, .int .u8 c, .int .u8 d, .int .u8 e, .int .u8 f, .int .u8 a', .int .u8 b', .int .u8 c', .int .u8 d', .int .u8 e', .int .u8 f'] := by kernel_rfl
theorem and255 (x : BitVec 64) : bits .and .u64 (U x) 255 = U (bAnd x 255#64) := bv_and x 255#64
namespace Y
/-- The promoted ones, by the law's loop. -/
def flipTo (m : BitVec 64) : Nat → BitVec 64
  | 0 => 0#64
  | r + 1 => bOr (flipTo m r) (bShl (bAnd (bShr m (8 * r)) 255#64) (56 - 8 * r))
theorem bit_255 (j : Nat) : bit 255#64 j = decide (j < 8) := by
  unfold bit
  by_cases h : j < 64
  · exact (show ∀ j : Fin 64, (255#64).getLsbD j.val = decide (j.val < 8) by decide +kernel) ⟨j, h⟩
  · rw [BitVec.getLsbD_of_ge _ _ (by omega), decide_eq_false (by omega)]
theorem bit_term (m : BitVec 64) (r n : Nat) (hr : r < 8) (hn : n < 64) : bit (bShl (bAnd (bShr m (8 * r)) 255#64) (56 - 8 * r)) n = (decide (n / 8 = 7 - r) && bit m (flp n)) := by
  have e : bit (bShl (bAnd (bShr m (8 * r)) 255#64) (56 - 8 * r)) n = (decide (56 - 8 * r ≤ n) && bit (bAnd (bShr m (8 * r)) 255#64) (n - (56 - 8 * r))) := by
    unfold bit bShl
    rw [BitVec.getLsbD_shiftLeft]
    by_cases h : n < 56 - 8 * r
    · rw [decide_eq_true h, decide_eq_false (show ¬ 56 - 8 * r ≤ n by omega)]; simp
    · rw [decide_eq_false h, decide_eq_true (show 56 - 8 * r ≤ n by omega), decide_eq_true hn]; simp
  rw [e, bit_and, bit_shr, bit_255]
  by_cases h : n / 8 = 7 - r
  · rw [decide_eq_true h, decide_eq_true (show 56 - 8 * r ≤ n by omega), decide_eq_true (show n - (56 - 8 * r) < 8 by omega), show 8 * r + (n - (56 - 8 * r)) = flp n by unfold flp; omega]
    simp
  · rw [decide_eq_false h]
    by_cases h1 : 56 - 8 * r ≤ n
    · rw [decide_eq_false (show ¬ n - (56 - 8 * r) < 8 by omega)]; simp
    · rw [decide_eq_false h1]; simp
theorem flipTo_8 (m : BitVec 64) : flipTo m 8 = flipB m := bit_ext fun n hn => by
  have hf := flp_lt n hn
  have h1 := bit_flipB m (flp n) hf
  rw [flp_flp n hn] at h1
  rw [h1]
  simp only [flipTo, bit_or, bit_zero]
  rw [show (8 * 0 : Nat) = 8 * 0 from rfl, bit_term m 0 n (by omega) hn, bit_term m 1 n (by omega) hn, bit_term m 2 n (by omega) hn, bit_term m 3 n (by omega) hn, bit_term m 4 n (by omega) hn, bit_term m 5 n (by omega) hn, bit_term m 6 n (by omega) hn, bit_term m 7 n (by omega) hn]
  rcases (show n / 8 = 0 ∨ n / 8 = 1 ∨ n / 8 = 2 ∨ n / 8 = 3 ∨ n / 8 = 4 ∨ n / 8 = 5 ∨ n / 8 = 6 ∨ n / 8 = 7 by omega) with h | h | h | h | h | h | h | h <;> rw [h] <;> simp
/-- The board, by the law's loop. -/
def turnB (c : Nat → Int) : Nat → Nat → Int
  | 0 => c
  | k + 1 => upd (turnB c k) (1 + flp k) (tp2 (c (1 + k)))
theorem turnB_sq (c : Nat → Int) (j : Nat) (hj : j < 64) : ∀ k, k ≤ 64 → turnB c k (1 + flp j) = if j < k then tp2 (c (1 + j)) else c (1 + flp j)
  | 0, _ => by simp [turnB]
  | k + 1, hk => by
    have ih := turnB_sq c j hj k (by omega)
    rw [turnB]
    by_cases e : j = k
    · subst e; rw [upd_same, if_pos (by omega)]
    · have hne : flp j ≠ flp k := fun h => e (flp_inj hj (by omega) h)
      rw [upd_other _ _ _ _ (by omega), ih]
      by_cases h : j < k
      · rw [if_pos h, if_pos (by omega)]
      · rw [if_neg h, if_neg (by omega)]
theorem turnB_out (c : Nat → Int) (i : Nat) (hi : i = 0 ∨ 64 < i) : ∀ k, k ≤ 64 → turnB c k i = c i
  | 0, _ => rfl
  | k + 1, hk => by
    have := flp_lt k (by omega)
    rw [turnB, upd_other _ _ _ _ (by omega), turnB_out c i hi k (by omega)]
/-- .. and what stands behind it. -/
def turn1 (c : Nat → Int) : Nat → Int :=
  updL (updL (updL (upd (turnB c 64) 78 (xor1 (c 78))) 79 [c 81, c 82, c 79, c 80]) 84 [c 85, c 84]) 66 [c 72, c 73, c 74, c 75, c 76, c 77, c 66, c 67, c 68, c 69, c 70, c 71]
def turn2 (c : Nat → Int) : Nat → Int := if 0 ≤ c 83 ∧ c 83 < 64 then upd (turn1 c) 83 ((flp (c 83).toNat : Nat) : Int) else turn1 c
def turn3 (c : Nat → Int) (r : Nat) : Nat → Int := upd (turn2 c) 65 (U (flipTo (prom c) r))
theorem turn3_eq (c : Nat → Int) (i : Nat) (hi : i < 88) : turn3 c 8 i = turnV c i := by
  unfold turn3
  rw [flipTo_8]
  by_cases h65 : i = 65
  · rw [h65, upd_same]; rfl
  rw [upd_other _ _ _ _ h65]
  have h2 : i ≠ 83 → turn2 c i = turn1 c i := fun h => by
    unfold turn2
    split
    · exact upd_other _ _ _ _ h
    · rfl
  by_cases h83 : i = 83
  · rw [h83, turnV_83]
    unfold turn2
    by_cases h : 0 ≤ c 83 ∧ c 83 < 64
    · rw [if_pos h, if_pos h, upd_same]
    · rw [if_neg h, if_neg h]
      unfold turn1
      simp only [updL]
      simp only [upd]
      simp
      exact turnB_out c 83 (by omega) 64 (by omega)
  rw [h2 h83]
  have hb : turn1 c i = if i = 66 then c 72 else if i = 67 then c 73 else if i = 68 then c 74 else if i = 69 then c 75 else if i = 70 then c 76 else if i = 71 then c 77 else if i = 72 then c 66 else if i = 73 then c 67 else if i = 74 then c 68 else if i = 75 then c 69 else if i = 76 then c 70 else if i = 77 then c 71 else if i = 84 then c 85 else if i = 85 then c 84 else if i = 79 then c 81 else if i = 80 then c 82 else if i = 81 then c 79 else if i = 82 then c 80 else if i = 78 then xor1 (c 78) else turnB c 64 i := by
    unfold turn1
    simp only [updL, upd]
    repeat' split
    all_goals (first | rfl | (subst_vars; first | rfl | omega) | omega)
  rw [hb]
  by_cases h0 : i = 0
  · subst h0
    simp
    rw [turnB_out c 0 (by omega) 64 (by omega)]
    rfl
  by_cases hs : i < 65
  · rw [if_neg (by omega), if_neg (by omega), if_neg (by omega), if_neg (by omega), if_neg (by omega), if_neg (by omega), if_neg (by omega), if_neg (by omega), if_neg (by omega), if_neg (by omega), if_neg (by omega), if_neg (by omega), if_neg (by omega), if_neg (by omega), if_neg (by omega), if_neg (by omega), if_neg (by omega), if_neg (by omega), if_neg (by omega)]
    obtain ⟨j, rfl⟩ : ∃ j, i = 1 + j := ⟨i - 1, by omega⟩
    have hj : j < 64 := by omega
    have h1 := turnB_sq c (flp j) (flp_lt j hj) 64 (by omega)
    rw [flp_flp j hj, if_pos (flp_lt j hj)] at h1
    rw [h1, turnV_sq' c j hj]
  rcases (show i = 66 ∨ i = 67 ∨ i = 68 ∨ i = 69 ∨ i = 70 ∨ i = 71 ∨ i = 72 ∨ i = 73 ∨ i = 74 ∨ i = 75 ∨ i = 76 ∨ i = 77 ∨ i = 78 ∨ i = 79 ∨ i = 80 ∨ i = 81 ∨ i = 82 ∨ i = 84 ∨ i = 85 ∨ i = 86 ∨ i = 87 by omega) with rfl | rfl | rfl | rfl | rfl | rfl | rfl | rfl | rfl | rfl | rfl | rfl | rfl | rfl | rfl | rfl | rfl | rfl | rfl | rfl | rfl
  all_goals first
    | rfl
    | (simp; exact turnB_out c _ (by omega) 64 (by omega))
end Y
end Go.Proofs.YtlphjjekamhnlaaDoor
