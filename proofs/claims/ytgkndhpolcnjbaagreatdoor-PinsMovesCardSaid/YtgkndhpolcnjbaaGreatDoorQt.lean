/- Several texts in one: PinsAB. -/

import Derived.Test.YtgkndhpolcnjbaaGreatDoorQh
namespace Go.Proofs.YtgkndhpolcnjbaaGreatDoor
open Go.RowKit
/-- How a direction leads. -/
def dUp (d : Nat) : Int := match d with | 0 | 1 | 7 => 1 | 3 | 4 | 5 => -1 | _ => 0
def dAs (d : Nat) : Int := match d with | 1 | 2 | 3 => 1 | 5 | 6 | 7 => -1 | _ => 0
/-- The squares of a ray, the nearest one first. -/
def rlTo (k d : Nat) : Nat → Int → Int → List Nat
  | 0, _, _ => []
  | n + 1, r, f => if 0 ≤ r ∧ r < 8 ∧ 0 ≤ f ∧ f < 8 then (8 * r + f).toNat :: rlTo k d n (r + dUp d) (f + dAs d) else []
def rl (k d : Nat) : List Nat := rlTo k d 8 ((k : Int) / 8 + dUp d) ((k : Int) % 8 + dAs d)
def rlB (k d : Nat) : Bool :=
  ((List.range 64).all fun j => (rl k d).contains j == inRay k d j) &&
  ((List.range (rl k d).length).all fun i => (List.range (rl k d).length).all fun j => inRay ((rl k d).getD i 0) d ((rl k d).getD j 0) == Nat.blt i j) &&
  ((rl k d).all fun j => Nat.blt j 64)
theorem rl_tab : ∀ (k : Fin 64) (d : Fin 8), rlB k.val d.val = true := by decide +kernel
theorem rl_spec (k d : Nat) (hk : k < 64) (hd : d < 8) : (∀ j, j < 64 → (j ∈ rl k d ↔ inRay k d j = true)) ∧ (∀ i j, i < (rl k d).length → j < (rl k d).length → (inRay ((rl k d).getD i 0) d ((rl k d).getD j 0) = decide (i < j))) ∧ ∀ j ∈ rl k d, j < 64 := by
  have h := rl_tab ⟨k, hk⟩ ⟨d, hd⟩
  unfold rlB at h
  simp only [Bool.and_eq_true, List.all_eq_true, List.mem_range, beq_iff_eq] at h
  obtain ⟨⟨h1, h2⟩, h3⟩ := h
  refine ⟨fun j hj => ?_, fun i j hi hj => ?_, fun j hj => ?_⟩
  · rw [← h1 j hj, List.contains_iff_mem]
  · rw [h2 i hi j hj, Bool.eq_iff_iff]; simp
  · have := h3 j hj; simpa using this
/-- In a ray's list a square is behind another one just if it comes later. -/
theorem rl_split (k d : Nat) (hk : k < 64) (hd : d < 8) (pre rest : List Nat) (m : Nat) (h : rl k d = pre ++ m :: rest) :
    (∀ j, j < 64 → (inRay k d j = true ↔ (j ∈ pre ∨ j = m ∨ j ∈ rest))) ∧ (∀ j ∈ pre, inRay j d m = true) ∧ (∀ j ∈ rest, inRay m d j = true) ∧ (∀ j ∈ pre, ∀ i ∈ rest, inRay j d i = true) ∧
    inRay m d m = false ∧ (∀ j ∈ pre, inRay m d j = false) ∧ (∀ j ∈ rest, inRay j d m = false) := by
  obtain ⟨h1, h2, h3⟩ := rl_spec k d hk hd
  have gp : ∀ i, i < pre.length → (rl k d).getD i 0 = pre.getD i 0 := fun i hi => by
    rw [h, List.getD_eq_getElem?_getD, List.getElem?_append_left hi, ← List.getD_eq_getElem?_getD]
  have gm : (rl k d).getD pre.length 0 = m := by
    rw [h, List.getD_eq_getElem?_getD, List.getElem?_append_right (Nat.le_refl _)]; simp
  have gr : ∀ i, i < rest.length → (rl k d).getD (pre.length + 1 + i) 0 = rest.getD i 0 := fun i hi => by
    rw [h, List.getD_eq_getElem?_getD, List.getElem?_append_right (by omega), show pre.length + 1 + i - pre.length = i + 1 by omega, List.getElem?_cons_succ, ← List.getD_eq_getElem?_getD]
  have hl : (rl k d).length = pre.length + 1 + rest.length := by rw [h]; simp; omega
  have ix : ∀ (l : List Nat) (j : Nat), j ∈ l → ∃ i, i < l.length ∧ l.getD i 0 = j := fun l j hj => by
    obtain ⟨i, hi, e⟩ := List.getElem_of_mem hj
    exact ⟨i, hi, by rw [List.getD_eq_getElem?_getD, List.getElem?_eq_getElem hi, e]; rfl⟩
  refine ⟨fun j hj => ?_, fun j hj => ?_, fun j hj => ?_, fun j hj i hi => ?_, ?_, fun j hj => ?_, fun j hj => ?_⟩
  · rw [← h1 j hj, h]; simp
  · obtain ⟨i, hi, rfl⟩ := ix pre j hj
    have := h2 i pre.length (by omega) (by omega)
    rw [gp i hi, gm] at this
    rw [this]; simpa using hi
  · obtain ⟨i, hi, rfl⟩ := ix rest j hj
    have := h2 pre.length (pre.length + 1 + i) (by omega) (by omega)
    rw [gr i hi, gm] at this
    rw [this]; simp; omega
  · obtain ⟨x, hx, rfl⟩ := ix pre j hj
    obtain ⟨y, hy, rfl⟩ := ix rest i hi
    have := h2 x (pre.length + 1 + y) (by omega) (by omega)
    rw [gp x hx, gr y hy] at this
    rw [this]; simp; omega
  · have := h2 pre.length pre.length (by omega) (by omega)
    rw [gm] at this
    rw [this]; simp
  · obtain ⟨i, hi, rfl⟩ := ix pre j hj
    have := h2 pre.length i (by omega) (by omega)
    rw [gp i hi, gm] at this
    rw [this]; simp; omega
  · obtain ⟨i, hi, rfl⟩ := ix rest j hj
    have := h2 (pre.length + 1 + i) pre.length (by omega) (by omega)
    rw [gr i hi, gm] at this
    rw [this]; simp; omega
theorem split_first (p : Nat → Bool) : ∀ l : List Nat, (∀ j ∈ l, p j = false) ∨ ∃ pre m rest, l = pre ++ m :: rest ∧ (∀ j ∈ pre, p j = false) ∧ p m = true
  | [] => .inl fun _ h => by cases h
  | a :: l => by
    cases ha : p a
    · rcases split_first p l with h | ⟨pre, m, rest, rfl, h1, h2⟩
      · exact .inl fun j hj => by rcases List.mem_cons.1 hj with rfl | hj; exact ha; exact h j hj
      · exact .inr ⟨a :: pre, m, rest, rfl, fun j hj => by rcases List.mem_cons.1 hj with rfl | hj; exact ha; exact h1 j hj, h2⟩
    · exact .inr ⟨[], a, l, rfl, fun _ h => (by cases h), ha⟩
/-- What is seen along a ray whose first occupied square is m. -/
theorem dir_split (k d : Nat) (occ : BitVec 64) (hk : k < 64) (hd : d < 8) (pre rest : List Nat) (m : Nat) (h : rl k d = pre ++ m :: rest) (hp : ∀ j ∈ pre, bit occ j = false) (hm : bit occ m = true) (j : Nat) (hj : j < 64) :
    bit (L.dir (k : Int) d occ) j = (decide (j ∈ pre) || decide (j = m)) := by
  obtain ⟨h1, h2, h3, h4, h5, h6, h7⟩ := rl_split k d hk hd pre rest m h
  have hm64 : m < 64 := (rl_spec k d hk hd).2.2 m (by rw [h]; simp)
  rw [bit_dir k d j occ hk hd hj]
  cases hr : inRay k d j
  · have := (not_congr (h1 j hj)).1 (by rw [hr]; simp)
    rw [not_or, not_or] at this
    simp [this.1, this.2.1]
  · rw [Bool.true_and]
    have hrm : inRay k d m = true := (h1 m hm64).2 (.inr (.inl rfl))
    rcases (h1 j hj).1 hr with hj1 | hj1 | hj1
    · rw [decide_eq_true hj1, Bool.true_or]
      refine (free_iff _ _ _).2 fun i hi hb => ?_
      rw [btw_ray k d j i hk hd hj hi hr, Bool.and_eq_true] at hb
      rcases (h1 i hi).1 hb.1 with hi1 | rfl | hi1
      · exact hp i hi1
      · rw [h6 j hj1] at hb; cases hb.2
      · have := inRay_trans i d j m hb.2 (h2 j hj1)
        rw [h7 i hi1] at this; cases this
    · subst hj1
      rw [decide_eq_true rfl, Bool.or_true]
      refine (free_iff _ _ _).2 fun i hi hb => ?_
      rw [btw_ray k d j i hk hd hj hi hr, Bool.and_eq_true] at hb
      rcases (h1 i hi).1 hb.1 with hi1 | rfl | hi1
      · exact hp i hi1
      · rw [h5] at hb; cases hb.2
      · rw [h7 i hi1] at hb; cases hb.2
    · rw [free_false occ k j m hm64 (by rw [btw_ray k d j m hk hd hj hm64 hr, hrm, h3 j hj1]; rfl) hm]
      have n1 : j ∉ pre := fun e => by
        have := h6 j e
        rw [h3 j hj1] at this; cases this
      have n2 : j ≠ m := fun e => by
        subst e
        have := h3 j hj1
        rw [h5] at this; cases this
      simp [n1, n2]
theorem dir_none (k d : Nat) (occ : BitVec 64) (hk : k < 64) (hd : d < 8) (hp : ∀ j ∈ rl k d, bit occ j = false) (j : Nat) (hj : j < 64) :
    bit (L.dir (k : Int) d occ) j = inRay k d j := by
  obtain ⟨h1, _, _⟩ := rl_spec k d hk hd
  rw [bit_dir k d j occ hk hd hj]
  cases hr : inRay k d j
  · rfl
  · rw [Bool.true_and]
    refine (free_iff _ _ _).2 fun i hi hb => ?_
    rw [btw_ray k d j i hk hd hj hi hr, Bool.and_eq_true] at hb
    exact hp i ((h1 i hi).2 hb.1)
end Go.Proofs.YtgkndhpolcnjbaaGreatDoor
namespace Go.Proofs.YtgkndhpolcnjbaaGreatDoor
open Go.RowKit
namespace N
def fst (c : Nat → Int) (k : Int) (d : Nat) : BitVec 64 := bAnd (L.dir k d (S.all c)) (S.all c)
def lin (c : Nat → Int) (k : Int) (d : Nat) : BitVec 64 := L.dir k d (bAndn (S.all c) (fst c k d))
def byS (c : Nat → Int) (k : Int) (d : Nat) : BitVec 64 := bAndn (bAnd (lin c k d) (S.all c)) (fst c k d)
def goes (kind : Int) (d : Nat) : Bool := kind == 5 || (d % 2 == 0 && kind == 4 || d % 2 == 1 && kind == 3)
def pinB (c : Nat → Int) (color k : Int) (d : Nat) : Bool :=
  U (bAnd (fst c k d) (S.of c color 0)) != 0 && (U (byS c k d) != 0 && (U (bAnd (byS c k d) (S.of c color 0)) == 0 && goes (P.kind (c (1 + (B.first (byS c k d)).toNat))) d))
def res (c : Nat → Int) (color k : Int) (d : Nat) : Option (Int × Int × BitVec 64) :=
  if pinB c color k d = true then some (B.first (fst c k d), B.first (byS c k d), lin c k d) else none
def mine (c : Nat → Int) (color : Int) (s : Nat) : Bool := P.kind (c (1 + s)) != 0 && D.color (c (1 + s)) == color
/-- The document's steps along a ray. -/
def alongL (c : Nat → Int) (color : Int) (d : Nat) : List Nat → Int → BitVec 64 → Int × Int × BitVec 64 × Bool
  | [], _, _ => (0, 0, 0#64, false)
  | s :: l, man, line =>
    if P.kind (c (1 + s)) = 0 then alongL c color d l man (bOr line (B.one s))
    else if man < 0 then (if mine c color s = true then alongL c color d l s (bOr line (B.one s)) else (0, 0, 0#64, false))
    else (man, s, bOr line (B.one s), goes (P.kind (c (1 + s))) d && !mine c color s)
def docR (c : Nat → Int) (color : Int) (k d : Nat) : Int × Int × BitVec 64 × Bool := alongL c color d (rl k d) (-1) 0#64
def dres (c : Nat → Int) (color : Int) (k d : Nat) : Option (Int × Int × BitVec 64) :=
  if (docR c color k d).2.2.2 = true then some ((docR c color k d).1, (docR c color k d).2.1, (docR c color k d).2.2.1) else none
def orL (line : BitVec 64) (l : List Nat) : BitVec 64 := l.foldl (fun b (j : Nat) => bOr b (B.one (j : Int))) line
theorem bit_orL (j : Nat) : ∀ (l : List Nat) (line : BitVec 64), (∀ i ∈ l, i < 64) → bit (orL line l) j = (bit line j || decide (j ∈ l))
  | [], line, _ => by simp [orL]
  | a :: l, line, h => by
    unfold orL
    rw [List.foldl_cons]
    have ih := bit_orL j l (bOr line (B.one (a : Int))) fun i hi => h i (List.mem_cons_of_mem _ hi)
    unfold orL at ih
    rw [ih, bit_or, bit_one a j (h a (List.mem_cons_self ..)), Bool.or_assoc]
    congr 1
    simp [List.mem_cons]
theorem along_skip (c : Nat → Int) (color : Int) (d : Nat) : ∀ (pre l : List Nat) (man : Int) (line : BitVec 64), (∀ j ∈ pre, P.kind (c (1 + j)) = 0) → alongL c color d (pre ++ l) man line = alongL c color d l man (orL line pre)
  | [], _, _, _, _ => rfl
  | a :: pre, l, man, line, h => by
    rw [List.cons_append, alongL, if_pos (h a (List.mem_cons_self ..)), along_skip c color d pre l man _ fun j hj => h j (List.mem_cons_of_mem _ hj)]
    rfl
theorem along_end (c : Nat → Int) (color : Int) (d : Nat) (l : List Nat) (man : Int) (line : BitVec 64) (h : ∀ j ∈ l, P.kind (c (1 + j)) = 0) : alongL c color d l man line = (0, 0, 0#64, false) := by
  have := along_skip c color d l [] man line h
  rw [List.append_nil] at this
  rw [this, alongL]
end N
theorem first_one (m : Nat) (hm : m < 64) : B.first (B.one (m : Int)) = m := by
  have hne : B.one (m : Int) ≠ 0#64 := fun e => by
    have := bit_one m m hm
    rw [e, bit_zero] at this; simp at this
  obtain ⟨n, e, h64, hb, _⟩ := first_spec _ hne
  rw [bit_one m n hm] at hb
  have hn : n = m := by simpa using hb
  rw [e, hn]
theorem U_one_ne (m : Nat) (hm : m < 64) : (U (B.one (m : Int)) != 0) = true := by
  rw [U_ne, decide_eq_true_eq]
  intro e
  have := bit_one m m hm
  rw [e, bit_zero] at this; simp at this
theorem U_one_and (m : Nat) (x : BitVec 64) (hm : m < 64) : (U (bAnd (B.one (m : Int)) x) != 0) = bit x m := by
  rw [← test_bit x m hm]
  congr 2
  unfold bAnd; rw [BitVec.and_comm]
theorem bit_of0 (c : Nat → Int) (color : Int) (hc : BdOk c) (j : Nat) (hj : j < 64) : bit (S.of c color 0) j = N.mine c color j := by
  obtain ⟨x0, x1⟩ := hc j hj
  rw [bit_of c color 0 j hj]
  unfold S.ofG N.mine
  rw [isB_kind _ x0 x1]
  cases hb : P.isB (c (1 + j))
  · rfl
  · rw [color_eq _ hb]; simp
/-- The three ways of a ray. -/
theorem ray_ways (c : Nat → Int) (k d : Nat) (hc : BdOk c) (hk : k < 64) (hd : d < 8) :
    (∃ pre m pre2 s rest2, rl k d = pre ++ m :: (pre2 ++ s :: rest2) ∧ (∀ j ∈ pre, P.kind (c (1 + j)) = 0) ∧ P.kind (c (1 + m)) ≠ 0 ∧ (∀ j ∈ pre2, P.kind (c (1 + j)) = 0) ∧ P.kind (c (1 + s)) ≠ 0 ∧ m < 64 ∧ s < 64 ∧ N.fst c k d = B.one m ∧ N.byS c k d = B.one s ∧ N.lin c k d = N.orL 0#64 (pre ++ m :: (pre2 ++ [s]))) ∨
    (∃ pre m rest, rl k d = pre ++ m :: rest ∧ (∀ j ∈ pre, P.kind (c (1 + j)) = 0) ∧ P.kind (c (1 + m)) ≠ 0 ∧ (∀ j ∈ rest, P.kind (c (1 + j)) = 0) ∧ m < 64 ∧ N.fst c k d = B.one m ∧ N.byS c k d = 0#64) ∨
    ((∀ j ∈ rl k d, P.kind (c (1 + j)) = 0) ∧ N.fst c k d = 0#64) := by
  obtain ⟨h1, h2, h3⟩ := rl_spec k d hk hd
  have ob : ∀ j, j < 64 → bit (S.all c) j = (P.kind (c (1 + j)) != 0) := fun j hj => by
    obtain ⟨x0, x1⟩ := hc j hj
    rw [bit_all c j hj, isB_kind _ x0 x1]
  rcases split_first (fun j => P.kind (c (1 + j)) != 0) (rl k d) with hno | ⟨pre, m, rest, hs, hpre, hm⟩
  · refine .inr (.inr ⟨fun j hj => by simpa using hno j hj, ?_⟩)
    refine zero_of fun j hj => ?_
    unfold N.fst
    rw [bit_and, dir_none k d _ hk hd (fun j hj => by rw [ob j (h3 j hj)]; exact hno j hj) j hj, ob j hj]
    cases hr : inRay k d j
    · rfl
    · rw [hno j ((h1 j hj).2 hr)]; rfl
  · have hm64 : m < 64 := h3 m (by rw [hs]; simp)
    have hp3 : ∀ j ∈ pre, j < 64 := fun j hj => h3 j (by rw [hs]; simp [hj])
    have hr3 : ∀ j ∈ rest, j < 64 := fun j hj => h3 j (by rw [hs]; simp [hj])
    have hf : N.fst c k d = B.one m := bit_ext fun j hj => by
      unfold N.fst
      rw [bit_and, dir_split k d _ hk hd pre rest m hs (fun j hj => by rw [ob j (hp3 j hj)]; exact hpre j hj) (by rw [ob m hm64]; exact hm) j hj, bit_one m j hm64, ob j hj]
      by_cases e : j = m
      · subst e; simp only [decide_true, Bool.or_true, Bool.true_and]; exact hm
      · rw [decide_eq_false e, Bool.or_false]
        by_cases e2 : j ∈ pre
        · rw [hpre j e2, Bool.and_false]
        · rw [decide_eq_false e2, Bool.false_and]
    obtain ⟨g1, g2, g3, g4, g5, g6, g7⟩ := rl_split k d hk hd pre rest m hs
    have mnp : m ∉ pre := fun e => by have := g2 m e; rw [g5] at this; cases this
    have mnr : m ∉ rest := fun e => by have := g3 m e; rw [g5] at this; cases this
    have ob2 : ∀ j, j < 64 → bit (bAndn (S.all c) (N.fst c k d)) j = ((P.kind (c (1 + j)) != 0) && !decide (j = m)) := fun j hj => by
      rw [bit_andn, ob j hj, hf, bit_one m j hm64]
    rcases split_first (fun j => P.kind (c (1 + j)) != 0) rest with hno | ⟨pre2, s, rest2, hs2, hpre2, hss⟩
    · refine .inr (.inl ⟨pre, m, rest, hs, fun j hj => by simpa using hpre j hj, by simpa using hm, fun j hj => by simpa using hno j hj, hm64, hf, ?_⟩)
      refine zero_of fun j hj => ?_
      unfold N.byS N.lin
      rw [bit_andn, bit_and, dir_none k d _ hk hd (fun j hj => ?_) j hj, ob j hj, hf, bit_one m j hm64]
      · cases hr : inRay k d j
        · rfl
        · rcases (g1 j hj).1 hr with h | h | h
          · rw [hpre j h]; rfl
          · rw [decide_eq_true h]; simp
          · rw [hno j h]; rfl
      · rw [ob2 j (h3 j hj)]
        rw [hs] at hj
        rcases List.mem_append.1 hj with h | h
        · rw [hpre j h]; rfl
        · rcases List.mem_cons.1 h with rfl | h
          · simp
          · rw [hno j h]; rfl
    · have hs64 : s < 64 := hr3 s (by rw [hs2]; simp)
      have hp23 : ∀ j ∈ pre2, j < 64 := fun j hj => hr3 j (by rw [hs2]; simp [hj])
      have hs3 : rl k d = (pre ++ m :: pre2) ++ s :: rest2 := by rw [hs, hs2]; simp
      have sm : s ≠ m := fun e => mnr (by rw [hs2, ← e]; simp)
      have hb1 : ∀ j, j < 64 → bit (N.lin c k d) j = (decide (j ∈ pre ++ m :: pre2) || decide (j = s)) := fun j hj => by
        unfold N.lin
        exact dir_split k d _ hk hd (pre ++ m :: pre2) rest2 s hs3 (fun j hj => by
          rcases List.mem_append.1 hj with h | h
          · rw [ob2 j (hp3 j h), hpre j h]; rfl
          · rcases List.mem_cons.1 h with rfl | h
            · rw [ob2 j hm64]; simp
            · rw [ob2 j (hp23 j h), hpre2 j h]; rfl) (by rw [ob2 s hs64, hss]; simp [sm]) j hj
      refine .inl ⟨pre, m, pre2, s, rest2, by rw [hs, hs2], fun j hj => by simpa using hpre j hj, by simpa using hm, fun j hj => by simpa using hpre2 j hj, by simpa using hss, hm64, hs64, hf, ?_, ?_⟩
      · refine bit_ext fun j hj => ?_
        unfold N.byS
        rw [bit_andn, bit_and, hb1 j hj, ob j hj, hf, bit_one m j hm64, bit_one s j hs64]
        by_cases e : j = s
        · subst e; rw [hss]; simp [sm]
        · rw [decide_eq_false e, Bool.or_false]
          by_cases e2 : j = m
          · simp [e2]
          · by_cases e3 : j ∈ pre
            · rw [hpre j e3]; simp
            · by_cases e4 : j ∈ pre2
              · rw [hpre2 j e4]; simp
              · rw [decide_eq_false (by simp [e2, e3, e4])]; rfl
      · refine bit_ext fun j hj => ?_
        rw [hb1 j hj, N.bit_orL j _ _ (fun i hi => by
          rcases List.mem_append.1 hi with h | h
          · exact hp3 i h
          · rcases List.mem_cons.1 h with rfl | h
            · exact hm64
            · rcases List.mem_append.1 h with h | h
              · exact hp23 i h
              · rw [List.mem_singleton.1 h]; exact hs64), bit_zero, Bool.false_or]
        rw [Bool.eq_iff_iff]; simp [or_assoc]
/-- One direction: both tell the same. -/
theorem res_eq (c : Nat → Int) (color : Int) (k d : Nat) (hc : BdOk c) (hk : k < 64) (hd : d < 8) : N.res c color k d = N.dres c color k d := by
  unfold N.res N.dres N.pinB N.docR
  rcases ray_ways c k d hc hk hd with ⟨pre, m, pre2, s, rest2, hs, h1, h2, h3, h4, hm, h5, hf, hb, hl⟩ | ⟨pre, m, rest, hs, h1, h2, h3, hm, hf, hb⟩ | ⟨hno, hf⟩
  · have hm0 : ¬ ((m : Int) < 0) := by omega
    rw [hf, hb, hl, hs, U_one_and m _ hm, U_one_ne s h5, first_one m hm, first_one s h5, bit_of0 c color hc m hm, N.along_skip c color d pre _ _ _ h1, N.alongL, if_neg h2, if_pos (show (-1 : Int) < 0 by decide)]
    have e1 : (U (bAnd (B.one (s : Int)) (S.of c color 0)) == 0) = !N.mine c color s := by
      have := U_one_and s (S.of c color 0) h5
      rw [bit_of0 c color hc s h5, bne] at this
      rw [← this, Bool.not_not]
    rw [e1]
    cases hmm : N.mine c color m
    · simp
    · rw [if_pos rfl, N.along_skip c color d pre2 _ _ _ h3, N.alongL, if_neg h4, if_neg hm0]
      simp only [Bool.true_and, Int.toNat_natCast]
      have e2 : N.orL 0#64 (pre ++ m :: (pre2 ++ [s])) = bOr (N.orL (bOr (N.orL 0#64 pre) (B.one (m : Int))) pre2) (B.one (s : Int)) := by
        unfold N.orL
        rw [List.foldl_append, List.foldl_cons, List.foldl_append, List.foldl_cons, List.foldl_nil]
      rw [e2, Bool.and_comm]
  · rw [hf, hb, hs, N.along_skip c color d pre _ _ _ h1, N.alongL, if_neg h2, if_pos (show (-1 : Int) < 0 by decide)]
    have e0 : (U 0#64 != 0) = false := rfl
    rw [e0, Bool.false_and, Bool.and_false]
    split
    · rename_i h; cases h
    · split
      · rw [N.along_end c color d rest _ _ h3]; rfl
      · rfl
  · rw [hf, N.along_end c color d _ _ _ hno]
    have e0 : (U (bAnd 0#64 (S.of c color 0)) != 0) = false := by
      have : bAnd 0#64 (S.of c color 0) = 0#64 := by unfold bAnd; simp
      rw [this]; rfl
    rw [e0, Bool.false_and]
    rfl
end Go.Proofs.YtgkndhpolcnjbaaGreatDoor
