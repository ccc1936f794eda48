/- Several texts in one: Ref13c, Ref13d. -/
import Derived.Maps.AppendAt
import Derived.Test.YtgkndhpolcnjbaaGreatDoorZm
import Derived.Test.YtgkndhpolcnjbaaGreatDoorZd
namespace Go.Proofs.YtgkndhpolcnjbaaGreatDoor
open Go.RowKit Go.Sort
set_option maxRecDepth 100000 in
set_option maxHeartbeats 8000000 in
theorem d13may_any (c : Nat → Int) (t a b : Nat) (w : World) (hc : PosOk c) (ht : c 78 = (t : Int)) (ht1 : t ≤ 1) (ha : a < 64) (hb : b < 64) :
    Calls Tryz.prog 113 #[.agg (posC c), .int .i64 (a : Int), .int .i64 (b : Int)] w fun e w' => e = .returned (.bool (D.may c t a b)) ∧ Below w.heap.size w w' := by
  have hcb := pos_bd hc
  have hp := PosAt.new w c
  have hb0 : Below w.heap.size w (w.alloc (.cells (posC c) 31)) := (Below.refl _ _).alloc (Nat.le_refl _) _
  obtain ⟨W, hW⟩ : ∃ W, w.alloc (.cells (posC c) 31) = W := ⟨_, rfl⟩
  rw [hW] at hp hb0
  obtain ⟨v0, v1⟩ := pos_u8 hc (i := 0) (by decide) rfl
  obtain ⟨v, hv⟩ : ∃ v : Nat, c 0 = (v : Int) := ⟨(c 0).toNat, by omega⟩
  obtain ⟨y0, y1⟩ := hcb a ha
  have HM : Hid (D.may c t a b = (decide (a ≠ b) && (D.own c a (t : Int) && (!D.own c b (t : Int) &&
    (if P.kind (c (1 + a)) = 1 then D.pawn c t a b else if P.kind (c (1 + a)) = 6 then D.hits c a b && (decide (c 0 ≠ 3) || D.empty c b) else D.hits c a b))))) := Lib.hid rfl
  have HK : Hid (∀ w, Calls Tryz.prog 59 #[.int .u8 (c (1 + a))] w fun e w' => e = .returned (.int .u8 (P.kind (c (1 + a)))) ∧ w = w') := Lib.hid (fun w => d8kind_any _ w y0 y1)
  have HP : Hid (∀ w, Calls Tryz.prog 182 #[.agg (posC c), .int .i64 (a : Int), .int .i64 (b : Int)] w fun e w' => e = .returned (.bool (D.pawn c t a b)) ∧ Below w.heap.size w w') := Lib.hid (fun w => d13pawn_any c t a b w hc ht ht1 ha hb)
  have HHi : Hid (∀ w, Calls Tryz.prog 183 #[.agg (posC c), .int .i64 (a : Int), .int .i64 (b : Int)] w fun e w' => e = .returned (.bool (D.hits c a b)) ∧ Below w.heap.size w w') := Lib.hid (fun w => d8hits_any c a b w hcb ha hb)
  have HOa : Hid (∀ w, Calls Tryz.prog 181 #[.agg (posC c), .int .i64 (a : Int), .int .u8 (t : Int)] w fun e w' => e = .returned (.bool (D.own c a (t : Int))) ∧ Below w.heap.size w w') := Lib.hid (fun w => d13own_any c a _ w hcb ha)
  have HOb : Hid (∀ w, Calls Tryz.prog 181 #[.agg (posC c), .int .i64 (b : Int), .int .u8 (t : Int)] w fun e w' => e = .returned (.bool (D.own c b (t : Int))) ∧ Below w.heap.size w w') := Lib.hid (fun w => d13own_any c b _ w hcb hb)
  have HE : Hid (∀ w, Calls Tryz.prog 184 #[.agg (posC c), .int .i64 (b : Int)] w fun e w' => e = .returned (.bool (D.empty c b)) ∧ Below w.heap.size w w') := Lib.hid (fun w => d13empty_any c b w hcb hb)
  have HC : Hid (∀ w' : World, PosAt w' w.heap.size c → w'.cell? ⟨w.heap.size, 0, none⟩ = some (.int .u8 (v : Int)) ∧ w'.cell? ⟨w.heap.size, 78, none⟩ = some (.int .u8 (t : Int)) ∧ w'.cell? ⟨w.heap.size, 1 + a, none⟩ = some (.int .u8 (c (1 + a)))) := Lib.hid (fun w' hq => by
    have h0 := hq.cell (i := 0) (by decide)
    have h78 := hq.cell (i := 78) (by decide)
    rw [hv, show pk 0 = .u8 from rfl] at h0
    rw [ht, show pk 78 = .u8 from rfl] at h78
    exact ⟨h0, h78, bd_cell hq.heap a ha⟩)
  obtain ⟨k0, k78, ksq⟩ := HC.out W hp
  have HPo := Lib.hid hp
  have HB0 := Lib.hid hb0
  rw [hv] at HM
  obtain ⟨x, hx⟩ : ∃ x, c (1 + a) = x := ⟨_, rfl⟩
  have hM := HM.out
  rw [hx] at HK hM ksq HC
  generalize P.kind x = k at *
  generalize D.own c a (t : Int) = o1 at *
  generalize D.own c b (t : Int) = o2 at *
  generalize D.pawn c t a b = pw at *
  generalize D.hits c a b = x1 at *
  generalize D.empty c b = x4 at *
  clear hp hb0 hc hcb ht hv v0 v1 hx HM
  by_cases q : a = b
  · have d1 : ((a : Int) == (b : Int)) = true := by simp; omega
    have E := Lib.hid (show D.may c t a b = false by rw [hM]; simp [q])
    clear q hM
    go_enter Tryz.func113, Tryz.ntmps113
    go_wp2
    go_ret
    exact ⟨ret_bool E.out.symm, HB0.out⟩
  have d1 : ((a : Int) == (b : Int)) = false := by simp; omega
  rw [decide_eq_true q, Bool.true_and] at hM
  clear q
  cases o1
  · have E := Lib.hid hM
    clear hM
    go_enter Tryz.func113, Tryz.ntmps113
    go_wp2_with (first
      | ((with_reducible refine wp_load_box rfl _ rfl ?_); refine ⟨_, _, rfl, HPo.out, ?_⟩)
      | ((with_reducible refine wp_load_box_g rfl _ rfl ?_); refine ⟨_, _, rfl, HPo.out, ?_⟩)
      | (go_at_call 181; refine (HOa.out _).mono ?_; rintro e w1 ⟨rfl, hb1⟩))
    go_ret
    exact ⟨ret_bool E.out.symm, below_next HB0.out hb1⟩
  rw [Bool.true_and] at hM
  cases o2
  case true =>
    have E := Lib.hid hM
    clear hM
    go_enter Tryz.func113, Tryz.ntmps113
    go_wp2_with (first
      | ((with_reducible refine wp_load_box rfl _ rfl ?_); refine ⟨_, _, rfl, (by first | exact HPo.out | assumption), ?_⟩)
      | ((with_reducible refine wp_load_box_g rfl _ rfl ?_); refine ⟨_, _, rfl, (by first | exact HPo.out | assumption), ?_⟩)
      | (go_at_call 181; (with_reducible refine (HOa.out _).mono ?_); rintro e w1 ⟨rfl, hb1⟩; have hp1 := HPo.out.below hb1; obtain ⟨m0, m78, msq⟩ := HC.out _ hp1)
      | (go_at_call 181; (with_reducible refine (HOb.out _).mono ?_); rintro e w2 ⟨rfl, hb2⟩))
    go_ret
    exact ⟨ret_bool E.out.symm, below_next HB0.out (below_next hb1 hb2)⟩
  rw [Bool.not_false, Bool.true_and] at hM
  by_cases k1 : k = 1
  · have E := Lib.hid (hM.trans (if_pos k1))
    have d2 : (k == 1) = true := by simpa using k1
    clear hM k1
    go_enter Tryz.func113, Tryz.ntmps113
    go_wp2_with (first
      | ((with_reducible refine wp_load_box rfl _ rfl ?_); refine ⟨_, _, rfl, (by first | exact HPo.out | assumption), ?_⟩)
      | ((with_reducible refine wp_load_box_g rfl _ rfl ?_); refine ⟨_, _, rfl, (by first | exact HPo.out | assumption), ?_⟩)
      | (go_at_call 181; (with_reducible refine (HOa.out _).mono ?_); rintro e w1 ⟨rfl, hb1⟩; have hp1 := HPo.out.below hb1; obtain ⟨m0, m78, msq⟩ := HC.out _ hp1)
      | (go_at_call 181; (with_reducible refine (HOb.out _).mono ?_); rintro e w2 ⟨rfl, hb2⟩; replace hb1 := below_next hb1 hb2; have hp2 := hp1.below hb2; obtain ⟨n0, n78, nsq⟩ := HC.out _ hp2)
      | (go_at_call 59; refine (HK.out _).mono ?_; rintro e w' ⟨rfl, rfl⟩)
      | (go_at_call 182; refine (HP.out _).mono ?_; rintro e w3 ⟨rfl, hb3⟩; replace hb1 := below_next hb1 hb3))
    go_ret
    exact ⟨ret_bool E.out.symm, below_next HB0.out hb1⟩
  rw [if_neg k1] at hM
  have d2 : (k == 1) = false := by simpa using k1
  clear k1
  by_cases k6 : k = 6
  · rw [if_pos k6] at hM
    have d3 : (k == 6) = true := by simpa using k6
    clear k6
    cases x1
    · have E := Lib.hid hM
      clear hM
      go_enter Tryz.func113, Tryz.ntmps113
      go_wp2_with (first
        | ((with_reducible refine wp_load_box rfl _ rfl ?_); refine ⟨_, _, rfl, (by first | exact HPo.out | assumption), ?_⟩)
        | ((with_reducible refine wp_load_box_g rfl _ rfl ?_); refine ⟨_, _, rfl, (by first | exact HPo.out | assumption), ?_⟩)
        | (go_at_call 181; (with_reducible refine (HOa.out _).mono ?_); rintro e w1 ⟨rfl, hb1⟩; have hp1 := HPo.out.below hb1; obtain ⟨m0, m78, msq⟩ := HC.out _ hp1)
        | (go_at_call 181; (with_reducible refine (HOb.out _).mono ?_); rintro e w2 ⟨rfl, hb2⟩; replace hb1 := below_next hb1 hb2; have hp2 := hp1.below hb2; obtain ⟨n0, n78, nsq⟩ := HC.out _ hp2)
        | (go_at_call 59; refine (HK.out _).mono ?_; rintro e w' ⟨rfl, rfl⟩)
        | (go_at_call 183; refine (HHi.out _).mono ?_; rintro e w3 ⟨rfl, hb3⟩; replace hb1 := below_next hb1 hb3))
      go_ret
      exact ⟨ret_bool E.out.symm, below_next HB0.out hb1⟩
    · rw [Bool.true_and] at hM
      by_cases v3 : v = 3
      · have d4 : ((v : Int) != 3) = false := by simp; omega
        have E := Lib.hid (show D.may c t a b = x4 by rw [hM]; simp [v3])
        clear hM v3
        go_enter Tryz.func113, Tryz.ntmps113
        go_wp2_with (first
          | ((with_reducible refine wp_load_box rfl _ rfl ?_); refine ⟨_, _, rfl, (by first | exact HPo.out | assumption), ?_⟩)
          | ((with_reducible refine wp_load_box_g rfl _ rfl ?_); refine ⟨_, _, rfl, (by first | exact HPo.out | assumption), ?_⟩)
          | (go_at_call 181; (with_reducible refine (HOa.out _).mono ?_); rintro e w1 ⟨rfl, hb1⟩; have hp1 := HPo.out.below hb1; obtain ⟨m0, m78, msq⟩ := HC.out _ hp1)
          | (go_at_call 181; (with_reducible refine (HOb.out _).mono ?_); rintro e w2 ⟨rfl, hb2⟩; replace hb1 := below_next hb1 hb2; have hp2 := hp1.below hb2; obtain ⟨n0, n78, nsq⟩ := HC.out _ hp2)
          | (go_at_call 59; refine (HK.out _).mono ?_; rintro e w' ⟨rfl, rfl⟩)
          | (go_at_call 183; refine (HHi.out _).mono ?_; rintro e w3 ⟨rfl, hb3⟩; replace hb1 := below_next hb1 hb3; have hp3 := hp2.below hb3; obtain ⟨l0, l78, lsq⟩ := HC.out _ hp3)
          | (go_at_call 184; refine (HE.out _).mono ?_; rintro e w4 ⟨rfl, hb4⟩; replace hb1 := below_next hb1 hb4))
        go_ret
        exact ⟨ret_bool E.out.symm, below_next HB0.out hb1⟩
      · have d4 : ((v : Int) != 3) = true := by simp; omega
        have E := Lib.hid (show D.may c t a b = true by rw [hM]; simp; omega)
        clear hM v3
        go_enter Tryz.func113, Tryz.ntmps113
        go_wp2_with (first
          | ((with_reducible refine wp_load_box rfl _ rfl ?_); refine ⟨_, _, rfl, (by first | exact HPo.out | assumption), ?_⟩)
          | ((with_reducible refine wp_load_box_g rfl _ rfl ?_); refine ⟨_, _, rfl, (by first | exact HPo.out | assumption), ?_⟩)
          | (go_at_call 181; (with_reducible refine (HOa.out _).mono ?_); rintro e w1 ⟨rfl, hb1⟩; have hp1 := HPo.out.below hb1; obtain ⟨m0, m78, msq⟩ := HC.out _ hp1)
          | (go_at_call 181; (with_reducible refine (HOb.out _).mono ?_); rintro e w2 ⟨rfl, hb2⟩; replace hb1 := below_next hb1 hb2; have hp2 := hp1.below hb2; obtain ⟨n0, n78, nsq⟩ := HC.out _ hp2)
          | (go_at_call 59; refine (HK.out _).mono ?_; rintro e w' ⟨rfl, rfl⟩)
          | (go_at_call 183; refine (HHi.out _).mono ?_; rintro e w3 ⟨rfl, hb3⟩; replace hb1 := below_next hb1 hb3; have hp3 := hp2.below hb3; obtain ⟨l0, l78, lsq⟩ := HC.out _ hp3))
        go_ret
        exact ⟨ret_bool E.out.symm, below_next HB0.out hb1⟩
  · have E := Lib.hid (hM.trans (if_neg k6))
    have d3 : (k == 6) = false := by simpa using k6
    clear hM k6
    go_enter Tryz.func113, Tryz.ntmps113
    go_wp2_with (first
      | ((with_reducible refine wp_load_box rfl _ rfl ?_); refine ⟨_, _, rfl, (by first | exact HPo.out | assumption), ?_⟩)
      | ((with_reducible refine wp_load_box_g rfl _ rfl ?_); refine ⟨_, _, rfl, (by first | exact HPo.out | assumption), ?_⟩)
      | (go_at_call 181; (with_reducible refine (HOa.out _).mono ?_); rintro e w1 ⟨rfl, hb1⟩; have hp1 := HPo.out.below hb1; obtain ⟨m0, m78, msq⟩ := HC.out _ hp1)
      | (go_at_call 181; (with_reducible refine (HOb.out _).mono ?_); rintro e w2 ⟨rfl, hb2⟩; replace hb1 := below_next hb1 hb2; have hp2 := hp1.below hb2; obtain ⟨n0, n78, nsq⟩ := HC.out _ hp2)
      | (go_at_call 59; refine (HK.out _).mono ?_; rintro e w' ⟨rfl, rfl⟩)
      | (go_at_call 183; refine (HHi.out _).mono ?_; rintro e w3 ⟨rfl, hb3⟩; replace hb1 := below_next hb1 hb3))
    go_ret
    exact ⟨ret_bool E.out.symm, below_next HB0.out hb1⟩
end Go.Proofs.YtgkndhpolcnjbaaGreatDoor
namespace Go.Proofs.YtgkndhpolcnjbaaGreatDoor
open Go.RowKit Go.Sort
theorem lit_own (w : World) (T : TypeId) (xs : List Value) (h : xs.length ≤ 100) : (w.alloc (.cells xs.toArray T)).ownsRow w.heap.size T 1 (.slice (some ⟨w.heap.size, 0, none⟩) xs.length xs.length) xs.length xs :=
  ⟨by simp, .inr ⟨_, xs.length, xs.toArray, rfl, Nat.le_refl _, heap_alloc_new w _, Nat.le_refl _, by unfold maxLen; omega, by simp, by simp⟩⟩
set_option maxRecDepth 100000 in
set_option maxHeartbeats 1000000 in
theorem d7promotes_any (v : Nat) (w : World) :
    Calls Tryz.prog 115 #[.int .u8 (v : Int)] w fun e w' => ∃ x, e = .returned x ∧ w'.ownsRow w.heap.size 5 1 x (V.promos v).length (V.u8s (V.promos v)) ∧ Below w.heap.size w w' := by
  by_cases h4 : v = 4
  · subst h4
    have E := Lib.hid (show V.promos 4 = [2, 3, 4, 5, 6] from rfl)
    go_enter Tryz.func115, Tryz.ntmps115
    go_wp2
    go_ret
    exact ⟨_, rfl, by rw [E.out]; exact lit_own w 5 [.int .u8 2, .int .u8 3, .int .u8 4, .int .u8 5, .int .u8 6] (by decide), (Below.refl _ _).alloc (Nat.le_refl _) _⟩
  · have d4 : ((v : Int) == 4) = false := by simp; omega
    by_cases h8 : v < 8
    · have d8 : decide ((v : Int) < 8) = true := by simp; omega
      have E := Lib.hid (show V.promos v = [2, 3, 4, 5] by unfold V.promos V.last; rw [if_neg h4, if_pos h8]; rfl)
      clear h4 h8
      go_enter Tryz.func115, Tryz.ntmps115
      go_wp2
      go_ret
      exact ⟨_, rfl, by rw [E.out]; exact lit_own w 5 [.int .u8 2, .int .u8 3, .int .u8 4, .int .u8 5] (by decide), (Below.refl _ _).alloc (Nat.le_refl _) _⟩
    · have d8 : decide ((v : Int) < 8) = false := by simp; omega
      have E := Lib.hid (show V.promos v = [] by unfold V.promos V.last; rw [if_neg h4, if_neg h8]; rfl)
      clear h4 h8
      go_enter Tryz.func115, Tryz.ntmps115
      go_wp2
      go_ret
      exact ⟨_, rfl, by rw [E.out]; exact World.ownsRow_nil _ _ _ _, Below.refl _ _⟩
/-- A row of moves that a call hands on: its own. -/
def Z.End (l : List Mv) (w : World) : Ending → World → Prop := fun e w' => ∃ x, e = .returned x ∧ w'.ownsRow w.heap.size 40 5 x l.length (M.cells l) ∧ Below w.heap.size w w'
namespace D
def rowB (c : Nat → Int) (t a n : Nat) : List Mv := (List.range n).flatMap fun b => if may c t a b = true then Z.eachL c t a b else []
def rowA (c : Nat → Int) (t n : Nat) : List Mv := (List.range n).flatMap fun a => rowB c t a 64
def lst (c : Nat → Int) : List Mv := if Z.ok c = true then list13 c (c 78).toNat else []
theorem list_row (c : Nat → Int) (t : Nat) : list13 c t = rowA c t 64 := rfl
theorem rowB_succ (c : Nat → Int) (t a n : Nat) : rowB c t a (n + 1) = rowB c t a n ++ (if may c t a n = true then Z.eachL c t a n else []) := by
  unfold rowB
  rw [List.range_succ, List.flatMap_append]
  simp
theorem rowA_succ (c : Nat → Int) (t n : Nat) : rowA c t (n + 1) = rowA c t n ++ rowB c t n 64 := by
  unfold rowA
  rw [List.range_succ, List.flatMap_append]
  simp
theorem each_len (c : Nat → Int) (t a b : Nat) : (Z.eachL c t a b).length ≤ 5 := by
  unfold Z.eachL
  split
  · have := V.last_bd (c 0).toNat
    unfold V.promos
    simp
    omega
  · simp
theorem rowB_len (c : Nat → Int) (t a : Nat) : ∀ n, (rowB c t a n).length ≤ 5 * n
  | 0 => by simp [rowB]
  | n + 1 => by
    have := rowB_len c t a n
    have h5 := each_len c t a n
    rw [rowB_succ, List.length_append]
    split
    · omega
    · simp; omega
theorem rowA_len (c : Nat → Int) (t : Nat) : ∀ n, (rowA c t n).length ≤ 320 * n
  | 0 => by simp [rowA]
  | n + 1 => by
    have := rowA_len c t n
    have h5 := rowB_len c t n 64
    rw [rowA_succ, List.length_append]
    omega
end D
theorem owns_ne {w : World} {base base' : Nat} {e e' : TypeId} {s s' : Nat} {v v' : Value} {n n' : Nat} {xs xs' : List Value} (h : w.ownsRow base e s v n xs) (h' : w.ownsRow base' e' s' v' n' xs') (hne : e ≠ e') : ∀ g, v.ownBlock = some g → v'.ownBlock ≠ some g := by
  rintro g hg hg'
  rcases h.2 with ⟨rfl, rfl⟩ | ⟨g1, cap, cur, rfl, _, hh, _⟩
  · cases hg
  rcases h'.2 with ⟨rfl, rfl⟩ | ⟨g2, cap', cur', rfl, _, hh', _⟩
  · cases hg'
  cases hg
  cases hg'
  rw [hh] at hh'
  cases hh'
  exact hne rfl
theorem M.cells_cons (l : List Mv) (x : Mv) : M.cells (l ++ [x]) = M.cells l ++ M.cell x := M.cells_snoc l x
theorem mv_row {W : World} {g : Nat} {T : TypeId} {m : Mv} (h : RowAt W g T (M.cell m).toArray) : ∀ (j : Nat) (u : Value), (M.cell m)[j]? = some u → W.cell? ((⟨g, 0, none⟩ : Addr).add j) = some u := by
  intro j u hj
  have := h.cell j
  rw [List.getElem?_toArray, hj] at this
  unfold Addr.add
  split
  · rename_i h0
    rw [h0] at this
    exact this
  · simpa using this
theorem mv_one (m : Mv) : ∀ u ∈ M.cell m, u.oneCell' = true := by
  intro u hu
  simp [M.cell] at hu
  rcases hu with rfl | rfl | rfl | rfl | rfl <;> rfl
theorem Tryz.info_Mv : (Tryz.prog.info? 40).map (fun i => (i.zero, i.size, i.bytes)) = some (some (.agg #[.int .i8 0, .int .i8 0, .int .u8 0, .int .u8 0, .bool false]), 5, 5) := by kernel_rfl
theorem Tryz.size_Mv : (Tryz.prog.info? 40).map (·.size) = some 5 := by kernel_rfl
theorem i8_sq (k : Nat) (h : k < 64) : IntKind.i8.wrap (k : Int) = (k : Int) := by unfold IntKind.wrap; simp [IntKind.bits, IntKind.signed]; omega
end Go.Proofs.YtgkndhpolcnjbaaGreatDoor
