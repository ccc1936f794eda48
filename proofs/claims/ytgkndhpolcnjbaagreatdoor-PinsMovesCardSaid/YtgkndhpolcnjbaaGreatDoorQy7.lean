/- Several texts in one: Law18g, Law18h, Law18i, Law18j, Law18k. -/

import Derived.Test.YtgkndhpolcnjbaaGreatDoorQy6
namespace Go.Proofs.YtgkndhpolcnjbaaGreatDoor
open Go.RowKit Go.Sort
namespace N
/-- m is pinned by s along the ray d from k. -/
def PinAt (c : Nat → Int) (color : Int) (k d m s : Nat) : Prop :=
  ∃ pre pre2 rest2, rl k d = pre ++ m :: (pre2 ++ s :: rest2) ∧ (∀ j ∈ pre, P.kind (c (1 + j)) = 0) ∧ P.kind (c (1 + m)) ≠ 0 ∧ (∀ j ∈ pre2, P.kind (c (1 + j)) = 0) ∧ P.kind (c (1 + s)) ≠ 0 ∧ mine c color m = true ∧ mine c color s = false ∧ goes (P.kind (c (1 + s))) d = true
theorem res_of (c : Nat → Int) (color : Int) (k d m s : Nat) (hc : BdOk c) (hk : k < 64) (hd : d < 8) (h : PinAt c color k d m s) : ∃ line, res c color k d = some ((m : Int), (s : Int), line) := by
  obtain ⟨pre, pre2, rest2, hs, h1, h2, h3, h4, h5, h6, h7⟩ := h
  have hm0 : ¬ ((m : Int) < 0) := by omega
  rw [res_eq c color k d hc hk hd]
  unfold dres docR
  rw [hs, along_skip c color d pre _ _ _ h1, alongL, if_neg h2, if_pos (show (-1 : Int) < 0 by decide), h5, if_pos rfl, along_skip c color d pre2 _ _ _ h3, alongL, if_neg h4, if_neg hm0, h6, h7]
  exact ⟨_, rfl⟩
theorem res_spec (c : Nat → Int) (color : Int) (k d : Nat) (x : Int × Int × BitVec 64) (hc : BdOk c) (hk : k < 64) (hd : d < 8) (h : res c color k d = some x) :
    ∃ m s : Nat, m < 64 ∧ s < 64 ∧ PinAt c color k d m s ∧ x.1 = (m : Int) ∧ x.2.1 = (s : Int) ∧ bit x.2.2 m = true ∧ bit x.2.2 s = true := by
  have hx : x = (B.first (fst c k d), B.first (byS c k d), lin c k d) ∧ pinB c color k d = true := by
    unfold res at h
    split at h
    · rename_i hp; cases h; exact ⟨rfl, hp⟩
    · cases h
  obtain ⟨rfl, hp⟩ := hx
  unfold pinB at hp
  have l3 := (rl_spec k d hk hd).2.2
  rcases ray_ways c k d hc hk hd with ⟨pre, m, pre2, s, rest2, hs, h1, h2, h3, h4, hm, h5, hf, hb, hl⟩ | ⟨pre, m, rest, hs, _, _, _, hm, hf, hb⟩ | ⟨_, hf⟩
  · rw [hf, hb, U_one_and m _ hm, U_one_ne s h5, bit_of0 c color hc m hm, first_one s h5, Int.toNat_natCast, Bool.true_and, Bool.and_eq_true, Bool.and_eq_true] at hp
    have e1 : (U (bAnd (B.one (s : Int)) (S.of c color 0)) == 0) = !mine c color s := by
      have := U_one_and s (S.of c color 0) h5
      rw [bit_of0 c color hc s h5, bne] at this
      rw [← this, Bool.not_not]
    rw [e1] at hp
    have hbt : ∀ j, bit (lin c k d) j = decide (j ∈ pre ++ m :: (pre2 ++ [s])) := fun j => by
      rw [hl, bit_orL j _ _ (fun i hi => l3 i (by rw [hs]; simp at hi ⊢; rcases hi with h | h | h | h <;> simp [h])), bit_zero, Bool.false_or]
    refine ⟨m, s, hm, h5, ⟨pre, pre2, rest2, hs, h1, h2, h3, h4, hp.1, by simpa using hp.2.1, hp.2.2⟩, ?_, ?_, ?_, ?_⟩
    · show B.first (fst c k d) = _; rw [hf, first_one m hm]
    · show B.first (byS c k d) = _; rw [hb, first_one s h5]
    · show bit (lin c k d) m = true; rw [hbt]; simp
    · show bit (lin c k d) s = true; rw [hbt]; simp
  · rw [hb] at hp
    have e0 : (U 0#64 != 0) = false := rfl
    rw [e0, Bool.false_and, Bool.and_false] at hp
    cases hp
  · rw [hf] at hp
    have e0 : (U (bAnd 0#64 (S.of c color 0)) != 0) = false := by
      have : bAnd 0#64 (S.of c color 0) = 0#64 := by unfold bAnd; simp
      rw [this]; rfl
    rw [e0, Bool.false_and] at hp
    cases hp
theorem mem_pins (c : Nat → Int) (color : Int) (hc : BdOk c) (x : Int × Int × BitVec 64) : x ∈ pins c color ↔ color ≤ 1 ∧ ∃ k : Nat, k < 64 ∧ D.find c color 6 = (k : Int) ∧ ∃ d, d < 8 ∧ res c color k d = some x := by
  unfold pins
  rw [find_eq c color hc]
  constructor
  · intro h
    split at h
    · rename_i hif
      rcases D.find_bd c color 6 with hf | ⟨k, hk, hf⟩
      · omega
      · rw [hf] at h
        unfold upTo at h
        rw [List.mem_filterMap] at h
        obtain ⟨d, hd, e⟩ := h
        exact ⟨hif.1, k, hk, hf, d, List.mem_range.1 hd, e⟩
    · cases h
  · rintro ⟨h1, k, hk, hf, d, hd, e⟩
    rw [hf, if_pos ⟨h1, by omega⟩]
    unfold upTo
    exact List.mem_filterMap.2 ⟨d, List.mem_range.2 hd, e⟩
theorem pins_spec (c : Nat → Int) (color : Int) (hc : BdOk c) (x : Int × Int × BitVec 64) (h : x ∈ pins c color) :
    color ≤ 1 ∧ ∃ k : Nat, k < 64 ∧ D.find c color 6 = (k : Int) ∧ ∃ d, d < 8 ∧ ∃ m s : Nat, m < 64 ∧ s < 64 ∧ PinAt c color k d m s ∧ x.1 = (m : Int) ∧ x.2.1 = (s : Int) ∧ bit x.2.2 m = true ∧ bit x.2.2 s = true := by
  obtain ⟨h1, k, hk, hf, d, hd, e⟩ := (mem_pins c color hc x).1 h
  exact ⟨h1, k, hk, hf, d, hd, res_spec c color k d x hc hk hd e⟩
theorem PinAt.ray {c : Nat → Int} {color : Int} {k d m s : Nat} (hk : k < 64) (hd : d < 8) (h : PinAt c color k d m s) : inRay k d m = true ∧ inRay k d s = true ∧ inRay m d s = true := by
  obtain ⟨pre, pre2, rest2, hs, _⟩ := h
  obtain ⟨h1, h2, h3⟩ := rl_spec k d hk hd
  obtain ⟨g1, g2, g3, _⟩ := rl_split k d hk hd pre _ m hs
  exact ⟨(h1 m (h3 m (by rw [hs]; simp))).1 (by rw [hs]; simp), (h1 s (h3 s (by rw [hs]; simp))).1 (by rw [hs]; simp), g3 s (by simp)⟩
theorem at_none_iff (l : List (Int × Int × BitVec 64)) (s : Int) : at' l s = none ↔ ∀ x ∈ l, x.1 ≠ s := by
  unfold at'
  rw [List.find?_eq_none]
  constructor
  · intro h x hx e; exact h x hx (by simp [e])
  · intro h x hx e; exact h x hx (by simpa using e)
theorem at_mem (l : List (Int × Int × BitVec 64)) (s : Int) (x : Int × Int × BitVec 64) (h : at' l s = some x) : x ∈ l ∧ x.1 = s := by
  unfold at' at h
  exact ⟨List.mem_of_find?_eq_some h, by simpa using List.find?_some h⟩
/-- What is pinned stands there, of that color. -/
theorem pins_mine (c : Nat → Int) (color : Int) (hc : BdOk c) (x : Int × Int × BitVec 64) (s : Nat) (h : x ∈ pins c color) (e : x.1 = (s : Int)) : mine c color s = true := by
  obtain ⟨_, k, hk, hf, d, hd, m, s', hm, hs', hp, e1, _⟩ := pins_spec c color hc x h
  have : m = s := by omega
  subst this
  obtain ⟨_, _, _, _, _, _, _, _, h5, _⟩ := hp
  exact h5
end N
theorem isK_is (x color : Int) (h0 : 0 ≤ x) (h1 : x ≤ 255) (hc : color = 0 ∨ color = 1) : (x == 8 * color + 6) = (P.kind x == 6 && D.color x == color) := by
  rcases hc with rfl | rfl
  · exact all8 (fun x => (x == 8 * 0 + 6) = (P.kind x == 6 && D.color x == 0)) (by decide +kernel) x h0 h1
  · exact all8 (fun x => (x == 8 * 1 + 6) = (P.kind x == 6 && D.color x == 1)) (by decide +kernel) x h0 h1
theorem kcnt_two (c : Nat → Int) (color : Int) (i j : Nat) (hi : isK c color i = true) (hj : isK c color j = true) (hij : i < j) : ∀ n, j < n → 2 ≤ kcnt c color n := by
  have one : ∀ n, i < n → 1 ≤ kcnt c color n := by
    intro n
    induction n with
    | zero => omega
    | succ n ih =>
      intro h
      rw [kcnt]
      by_cases e : i = n
      · subst e; rw [if_pos hi]; omega
      · have := ih (by omega); omega
  intro n
  induction n with
  | zero => omega
  | succ n ih =>
    intro h
    rw [kcnt]
    by_cases e : j = n
    · subst e; rw [if_pos hj]; have := one j hij; omega
    · have := ih (by omega); omega
end Go.Proofs.YtgkndhpolcnjbaaGreatDoor
namespace Go.Proofs.YtgkndhpolcnjbaaGreatDoor
open Go.RowKit Go.Sort
set_option maxRecDepth 100000 in
set_option maxHeartbeats 2000000 in
theorem king18_any (c : Nat → Int) (color : Int) (w : World) (hc : BdOk c) (hk : color = 0 ∨ color = 1) :
    Calls Tryz.prog 23 #[.agg (posC c), .int .u8 color] w fun e w' => e = .returned (.int .i64 (D.find c color 6)) ∧ Below w.heap.size w w' := by
  have Hc := Lib.hid hc
  clear hc
  have hw8 : (8 * color) % 256 = 8 * color := by omega
  have hw9 : (8 * color + 6) % 256 = 8 * color + 6 := by omega
  have Hk := Lib.hid hk
  clear hk
  go_enter Tryz.func23, Tryz.ntmps23
  go_wp2
  have HW := Lib.hid (heap_alloc_new w (.cells (posC c) 31))
  have Hb0 := Lib.hid ((Below.refl w.heap.size w).alloc (Nat.le_refl _) (.cells (posC c) 31))
  go_loopw [5] (fun i wr => ∃ k : Nat, k ≤ 64 ∧ i = .int .i64 (k : Int) ∧ D.find c color 6 = D.first (fun s => D.is c s color 6) k (64 - k) ∧ wr.heap[w.heap.size]? = some (.cells (posC c) 31 (0, 0)) ∧ Below w.heap.size w wr) (fun i _ => 64 - (intOf i).toNat)
  case atStart => exact ⟨0, Nat.zero_le _, rfl, rfl, HW.out, Hb0.out⟩
  case round =>
    obtain ⟨k, hk, rfl, he, hp, hbr⟩ := hrel
    have He := Lib.hid he
    clear he
    by_cases hlt : k < 64
    · obtain ⟨x0, x1⟩ := Hc.out k hlt
      have hcl := bd_cell hp k hlt
      have hst : D.first (fun s => D.is c s color 6) k (64 - k) = if (c (1 + k) == 8 * color + 6) = true then (k : Int) else D.first (fun s => D.is c s color 6) (k + 1) (64 - (k + 1)) := by
        rw [show 64 - k = (64 - (k + 1)) + 1 by omega, D.first, isK_is _ color x0 x1 Hk.out]; rfl
      cases hx : (c (1 + k) == 8 * color + 6)
      · rw [hx, if_neg (by simp)] at hst
        have Hst := Lib.hid hst
        clear hst
        go_wp2
        exact ⟨⟨k + 1, by omega, by go_num, by rw [He.out, Hst.out], hp, hbr⟩, by simp [intOf]; omega⟩
      · rw [hx, if_pos rfl] at hst
        have Hst := Lib.hid hst
        clear hst
        go_wp2
        go_ret
        exact ⟨ret_int (by rw [He.out, Hst.out]), hbr⟩
    · obtain rfl : k = 64 := by omega
      go_wp2
      go_ret
      exact ⟨ret_int (by rw [He.out]; rfl), hbr⟩
end Go.Proofs.YtgkndhpolcnjbaaGreatDoor
namespace Go.Proofs.YtgkndhpolcnjbaaGreatDoor
open Go.RowKit Go.Sort
theorem standard_val (c : Nat → Int) (b : Bool) (w : World) (hc : PosOk c) (h : stdOk c = b) :
    Calls Tryz.prog 22 #[.agg (posC c)] w fun e w' => e = .returned (.tuple #[.agg (posC (stdP c)), .bool b]) ∧ Below w.heap.size w w' := by
  rw [← h]; exact standard_any c w hc
theorem king18_val (c : Nat → Int) (color n : Int) (w : World) (hc : BdOk c) (hk : color = 0 ∨ color = 1) (h : D.find c color 6 = n) :
    Calls Tryz.prog 23 #[.agg (posC c), .int .u8 color] w fun e w' => e = .returned (.int .i64 n) ∧ Below w.heap.size w w' := by
  rw [← h]; exact king18_any c color w hc hk
end Go.Proofs.YtgkndhpolcnjbaaGreatDoor
namespace Go.Proofs.YtgkndhpolcnjbaaGreatDoor
open Go.RowKit Go.Sort
namespace N
/-- The position with the man on s taken off. -/
def off (c : Nat → Int) (s : Nat) : Nat → Int := upd c (1 + s) 0
/-- A pin: the line is free but for the man. -/
theorem PinAt.free {c : Nat → Int} {color : Int} {k s a d : Nat} (hc : BdOk c) (hk : k < 64) (hd : d < 8) (ha : a < 64) (h : PinAt c color k d s a) :
    (∀ j, j < 64 → j ≠ s → btw k a j = true → bit (S.all c) j = false) := by
  obtain ⟨pre, pre2, rest2, hl, g1, g2, g3, g4, _⟩ := h
  intro j hj hne hb
  have hl2 : rl k d = (pre ++ s :: pre2) ++ a :: rest2 := by rw [hl]; simp
  obtain ⟨p1, p2, p3, p4, p5, p6, p7⟩ := rl_split k d hk hd (pre ++ s :: pre2) rest2 a hl2
  have hr : inRay k d a = true := (p1 a ha).2 (.inr (.inl rfl))
  rw [btw_ray k d a j hk hd ha hj hr, Bool.and_eq_true] at hb
  obtain ⟨x0, x1⟩ := hc j hj
  rw [bit_all c j hj, ← isB_kind _ x0 x1]
  rcases (p1 j hj).1 hb.1 with h | h | h
  · rcases List.mem_append.1 h with h | h
    · rw [g1 j h]; rfl
    · rcases List.mem_cons.1 h with h | h
      · exact absurd h hne
      · rw [g3 j h]; rfl
  · subst h; rw [p5] at hb; cases hb.2
  · rw [p7 j h] at hb; cases hb.2
end N
end Go.Proofs.YtgkndhpolcnjbaaGreatDoor
namespace Go.Proofs.YtgkndhpolcnjbaaGreatDoor
open Go.RowKit Go.Sort
namespace N
theorem on_color (c : Nat → Int) (color : Int) (s : Nat) (hc : BdOk c) (hcol : color = 0 ∨ color = 1) (hms : mine c color s = true) : on c (s : Int) = at' (pins c color) (s : Int) := by
  have hcs : D.color (c (1 + s)) = color := by unfold mine at hms; rw [Bool.and_eq_true, beq_iff_eq] at hms; exact hms.2
  have other : at' (pins c (1 - color)) (s : Int) = none := by
    rw [at_none_iff]
    intro x hx e
    have := pins_mine c (1 - color) hc x s hx e
    unfold mine at this
    rw [Bool.and_eq_true, beq_iff_eq] at this
    omega
  unfold on
  rcases hcol with rfl | rfl
  · rw [show (1 : Int) = 1 - 0 from rfl, other]; cases at' (pins c 0) (s : Int) <;> rfl
  · rw [show (0 : Int) = 1 - 1 from rfl, other]; rfl
end N
end Go.Proofs.YtgkndhpolcnjbaaGreatDoor
