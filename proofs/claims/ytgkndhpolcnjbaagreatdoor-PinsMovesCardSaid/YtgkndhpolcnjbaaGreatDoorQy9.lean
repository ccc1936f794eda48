/- Several texts in one: PmA, PmB. -/

import Derived.Test.YtgkndhpolcnjbaaGreatDoorQy7
import Derived.Test.YtgkndhpolcnjbaaGreatDoorQy5
namespace Go.Proofs.YtgkndhpolcnjbaaGreatDoor
open Go.RowKit Go.Sort
namespace W
theorem dirs_tab : ∀ (k g : Fin 64), ((List.range 8).filter fun d => inRay k.val d g.val).length ≤ 1 := by decide +kernel
theorem two_mem {l : List Nat} {a b : Nat} (ha : a ∈ l) (hb : b ∈ l) (h : l.length ≤ 1) : a = b := by
  match l, h with
  | [], _ => cases ha
  | [x], _ => simp at ha hb; rw [ha, hb]
  | _ :: _ :: _, h => simp at h
/-- One square lies on one ray of another at most. -/
theorem dir_one (k g d e : Nat) (hk : k < 64) (hg : g < 64) (hd : d < 8) (he : e < 8) (h1 : inRay k d g = true) (h2 : inRay k e g = true) : d = e :=
  two_mem (List.mem_filter.2 ⟨List.mem_range.2 hd, h1⟩) (List.mem_filter.2 ⟨List.mem_range.2 he, h2⟩) (dirs_tab ⟨k, hk⟩ ⟨g, hg⟩)
theorem trich (k d a b : Nat) (h1 : inRay k d a = true) (h2 : inRay k d b = true) : a = b ∨ inRay a d b = true ∨ inRay b d a = true := by
  rcases Nat.lt_trichotomy a b with h | h | h
  · by_cases hd : 3 ≤ d ∧ d ≤ 6
    · exact .inr (.inr (inRay_down k d b a hd h2 h1 h))
    · exact .inr (.inl (inRay_up k d a b hd h1 h2 h))
  · exact .inl h
  · by_cases hd : 3 ≤ d ∧ d ≤ 6
    · exact .inr (.inl (inRay_down k d a b hd h1 h2 h))
    · exact .inr (.inr (inRay_up k d b a hd h2 h1 h))
theorem occ_kind (c : Nat → Int) (hc : BdOk c) (j : Nat) (hj : j < 64) : bit (S.all c) j = (P.kind (c (1 + j)) != 0) := by
  obtain ⟨x0, x1⟩ := hc j hj
  rw [bit_all c j hj, isB_kind _ x0 x1]
/-- A slider hits along a ray whose squares between are empty. -/
theorem slider_iff (c : Nat → Int) (a k : Nat) (hc : BdOk c) (ha : a < 64) (hk : k < 64) (hs : N.slider (P.kind (c (1 + a))) = true) :
    D.hits c a k = true ↔ ∃ d, d < 8 ∧ inRay k d a = true ∧ N.goes (P.kind (c (1 + a))) d = true ∧ ∀ j, j < 64 → inRay k d j = true → inRay j d a = true → P.kind (c (1 + j)) = 0 := by
  have hfree : (D.straight k a || D.across k a) = true → ∀ d, d < 8 → inRay k d a = true → (free (S.all c) a k = true ↔ ∀ j, j < 64 → inRay k d j = true → inRay j d a = true → P.kind (c (1 + j)) = 0) := fun hl d hd hr => by
    rw [free_back _ k a hk ha hl, free_iff]
    constructor
    · intro h j hj h1 h2
      have := h j hj (by rw [btw_ray k d a j hk hd ha hj hr, h1, h2]; rfl)
      rw [occ_kind c hc j hj] at this
      simpa using this
    · intro h j hj hb
      rw [btw_ray k d a j hk hd ha hj hr, Bool.and_eq_true] at hb
      rw [occ_kind c hc j hj, h j hj hb.1 hb.2]
      rfl
  have hst := straight_ray k a hk ha
  have hac := across_ray k a hk ha
  rw [hits_K c a k hc ha hk]
  generalize P.kind (c (1 + a)) = x at *
  unfold N.slider at hs
  simp only [Bool.or_eq_true, beq_iff_eq] at hs
  rcases hs with rfl | rfl | rfl
  · show (D.straight a k && free (S.all c) a k) = true ↔ _
    rw [straight_back k a, Bool.and_eq_true]
    constructor
    · rintro ⟨h1, h2⟩
      have hl : (D.straight k a || D.across k a) = true := by rw [h1]; rfl
      rw [hst] at h1
      simp only [Bool.or_eq_true] at h1
      rcases h1 with h1 | h1 | h1 | h1
      · exact ⟨0, by omega, h1, rfl, (hfree hl 0 (by omega) h1).1 h2⟩
      · exact ⟨2, by omega, h1, rfl, (hfree hl 2 (by omega) h1).1 h2⟩
      · exact ⟨4, by omega, h1, rfl, (hfree hl 4 (by omega) h1).1 h2⟩
      · exact ⟨6, by omega, h1, rfl, (hfree hl 6 (by omega) h1).1 h2⟩
    · rintro ⟨d, hd, h1, h2, h3⟩
      have hs1 : D.straight k a = true := by
        rw [hst]
        rcases (show d = 0 ∨ d = 1 ∨ d = 2 ∨ d = 3 ∨ d = 4 ∨ d = 5 ∨ d = 6 ∨ d = 7 by omega) with rfl | rfl | rfl | rfl | rfl | rfl | rfl | rfl <;> first | (rw [h1]; simp) | cases h2
      exact ⟨hs1, (hfree (by rw [hs1]; rfl) d hd h1).2 h3⟩
  · show (D.across a k && free (S.all c) a k) = true ↔ _
    rw [across_back k a, Bool.and_eq_true]
    constructor
    · rintro ⟨h1, h2⟩
      have hl : (D.straight k a || D.across k a) = true := by rw [h1]; simp
      rw [hac] at h1
      simp only [Bool.or_eq_true] at h1
      rcases h1 with h1 | h1 | h1 | h1
      · exact ⟨1, by omega, h1, rfl, (hfree hl 1 (by omega) h1).1 h2⟩
      · exact ⟨3, by omega, h1, rfl, (hfree hl 3 (by omega) h1).1 h2⟩
      · exact ⟨5, by omega, h1, rfl, (hfree hl 5 (by omega) h1).1 h2⟩
      · exact ⟨7, by omega, h1, rfl, (hfree hl 7 (by omega) h1).1 h2⟩
    · rintro ⟨d, hd, h1, h2, h3⟩
      have hs1 : D.across k a = true := by
        rw [hac]
        rcases (show d = 0 ∨ d = 1 ∨ d = 2 ∨ d = 3 ∨ d = 4 ∨ d = 5 ∨ d = 6 ∨ d = 7 by omega) with rfl | rfl | rfl | rfl | rfl | rfl | rfl | rfl <;> first | (rw [h1]; simp) | cases h2
      exact ⟨hs1, (hfree (by rw [hs1]; simp) d hd h1).2 h3⟩
  · show ((D.straight a k || D.across a k) && free (S.all c) a k) = true ↔ _
    rw [straight_back k a, across_back k a, Bool.and_eq_true]
    constructor
    · rintro ⟨hl, h2⟩
      obtain ⟨d, hd, h1⟩ := line_dir k a hk ha hl
      exact ⟨d, hd, h1, rfl, (hfree hl d hd h1).1 h2⟩
    · rintro ⟨d, hd, h1, h2, h3⟩
      have hl : (D.straight k a || D.across k a) = true := by
        rw [hst, hac]
        rcases (show d = 0 ∨ d = 1 ∨ d = 2 ∨ d = 3 ∨ d = 4 ∨ d = 5 ∨ d = 6 ∨ d = 7 by omega) with rfl | rfl | rfl | rfl | rfl | rfl | rfl | rfl <;> (rw [h1]; simp)
      exact ⟨hl, (hfree hl d hd h1).2 h3⟩
/-- Who is no slider hits whatever stands elsewhere. -/
theorem leaper (c q : Nat → Int) (a k : Nat) (hc : BdOk c) (hq : BdOk q) (ha : a < 64) (hk : k < 64) (e : q (1 + a) = c (1 + a)) (hs : N.slider (P.kind (c (1 + a))) = false) : D.hits q a k = D.hits c a k := by
  rw [hits_K c a k hc ha hk, hits_K q a k hq ha hk, e]
  unfold N.slider at hs
  simp only [Bool.or_eq_false_iff, beq_eq_false_iff_ne, ne_eq] at hs
  obtain ⟨h4, h3, h5⟩ := hs
  unfold D.hitsK
  rw [if_neg h4, if_neg h3, if_neg h5, if_neg h4, if_neg h3, if_neg h5]
/-- m is pinned by s along the ray d from k. -/
structure PinR (c : Nat → Int) (color : Int) (k d m s : Nat) : Prop where
  km : inRay k d m = true
  ms : inRay m d s = true
  empty : ∀ j, j < 64 → inRay k d j = true → inRay j d s = true → j ≠ m → P.kind (c (1 + j)) = 0
  kindm : P.kind (c (1 + m)) ≠ 0
  kinds : P.kind (c (1 + s)) ≠ 0
  minem : N.mine c color m = true
  mines : N.mine c color s = false
  goes : N.goes (P.kind (c (1 + s))) d = true
theorem pinR_at (c : Nat → Int) (color : Int) (k d m s : Nat) (hk : k < 64) (hd : d < 8) (hm : m < 64) (hs : s < 64) : N.PinAt c color k d m s ↔ PinR c color k d m s := by
  obtain ⟨h1, _, h3⟩ := rl_spec k d hk hd
  constructor
  · intro h
    obtain ⟨_, _, hr⟩ := h.ray hk hd
    obtain ⟨pre, pre2, rest2, hl, p1, p2, p3, p4, p5, p6, p7⟩ := h
    obtain ⟨g1, g2, g3, g4, g5, g6, g7⟩ := rl_split k d hk hd pre _ m hl
    obtain ⟨f1, f2, f3, f4, f5, f6, f7⟩ := rl_split k d hk hd (pre ++ m :: pre2) rest2 s (by rw [hl]; simp)
    refine ⟨(h1 m hm).1 (by rw [hl]; simp), hr, fun j hj j1 j2 j3 => ?_, p2, p4, p5, p6, p7⟩
    rcases (f1 j hj).1 j1 with h | h | h
    · simp only [List.mem_append, List.mem_cons] at h
      rcases h with h | h | h
      · exact p1 j h
      · exact absurd h j3
      · exact p3 j h
    · subst h; rw [f5] at j2; cases j2
    · have := f7 j h; rw [this] at j2; cases j2
  · intro h
    obtain ⟨pre, rest, hl⟩ := List.append_of_mem ((h1 m hm).2 h.km)
    obtain ⟨g1, g2, g3, g4, g5, g6, g7⟩ := rl_split k d hk hd pre rest m hl
    have hks := inRay_trans k d m s h.km h.ms
    have hsr : s ∈ rest := by
      rcases (g1 s hs).1 hks with e | e | e
      · have h0 := h.ms; rw [g6 s e] at h0; cases h0
      · subst e; have h0 := h.ms; rw [g5] at h0; cases h0
      · exact e
    obtain ⟨pre2, rest2, hl2⟩ := List.append_of_mem hsr
    subst hl2
    obtain ⟨f1, f2, f3, f4, f5, f6, f7⟩ := rl_split k d hk hd (pre ++ m :: pre2) rest2 s (by rw [hl]; simp)
    refine ⟨pre, pre2, rest2, hl, fun j hj => ?_, h.kindm, fun j hj => ?_, h.kinds, h.minem, h.mines, h.goes⟩
    · refine h.empty j (h3 j (by rw [hl]; simp [hj])) ((h1 j (h3 j (by rw [hl]; simp [hj]))).1 (by rw [hl]; simp [hj])) (f2 j (by simp [hj])) (fun e => ?_)
      subst e
      have := g2 j hj
      rw [g5] at this; cases this
    · refine h.empty j (h3 j (by rw [hl]; simp [hj])) ((h1 j (h3 j (by rw [hl]; simp [hj]))).1 (by rw [hl]; simp [hj])) (f2 j (by simp [hj])) (fun e => ?_)
      subst e
      have := g3 j (by simp [hj])
      rw [g5] at this; cases this
/-- A pin's line: the squares of its ray up to who pins. -/
theorem lin_bits (c : Nat → Int) (color : Int) (k d m s : Nat) (x : Int × Int × BitVec 64) (hc : BdOk c) (hk : k < 64) (hd : d < 8) (hm : m < 64) (hs : s < 64) (h : N.res c color k d = some x) (hp : PinR c color k d m s) (j : Nat) (hj : j < 64) :
    bit x.2.2 j = (inRay k d j && (decide (j = s) || inRay j d s)) := by
  obtain ⟨h1, _, h3⟩ := rl_spec k d hk hd
  have hx : x = (B.first (N.fst c k d), B.first (N.byS c k d), N.lin c k d) := by
    unfold N.res at h
    split at h
    · cases h; rfl
    · cases h
  obtain ⟨m2, s2, hm2, hs2, hat, e1, e2, _, _⟩ := N.res_spec c color k d x hc hk hd h
  have hp2 := (pinR_at c color k d m2 s2 hk hd hm2 hs2).1 hat
  have hks := inRay_trans k d m s hp.km hp.ms
  have hks2 := inRay_trans k d m2 s2 hp2.km hp2.ms
  have es : s2 = s := by
    have emm : m2 = m := by
      rcases trich k d m2 m hp2.km hp.km with e | e | e
      · exact e
      · exact absurd (hp.empty m2 hm2 hp2.km (inRay_trans m2 d m s e hp.ms) (fun e' => by
            subst e'
            have h0 : inRay m2 d m2 = false := N.inRay_self m2 d hm2 hd
            rw [h0] at e; cases e)) hp2.kindm
      · exact absurd (hp2.empty m hm hp.km (inRay_trans m d m2 s2 e hp2.ms) (fun e' => by
            subst e'
            have h0 : inRay m d m = false := N.inRay_self m d hm hd
            rw [h0] at e; cases e)) hp.kindm
    subst emm
    rcases trich k d s2 s hks2 hks with e | e | e
    · exact e
    · exact absurd (hp.empty s2 hs2 hks2 e (fun e' => by
          subst e'
          have h0 : inRay s2 d s2 = false := N.inRay_self s2 d hs2 hd
          have := hp2.ms
          rw [h0] at this; cases this)) hp2.kinds
    · exact absurd (hp2.empty s hs hks e (fun e' => by
          subst e'
          have h0 : inRay s d s = false := N.inRay_self s d hs hd
          have := hp.ms
          rw [h0] at this; cases this)) hp.kinds
  subst es
  subst hx
  show bit (N.lin c k d) j = _
  rcases ray_ways c k d hc hk hd with ⟨pre, m3, pre2, s3, rest2, hl, _, _, _, _, hm3, hs3, hf, hb, hln⟩ | ⟨pre, m3, rest, hl, _, _, _, hm3, hf, hb⟩ | ⟨_, hf⟩
  · have e3 : s3 = s2 := by
      have : B.first (N.byS c k d) = (s2 : Int) := e2
      rw [hb, first_one s3 hs3] at this
      omega
    subst e3
    obtain ⟨f1, f2, f3, f4, f5, f6, f7⟩ := rl_split k d hk hd (pre ++ m3 :: pre2) rest2 s3 (by rw [hl]; simp)
    rw [hln, N.bit_orL j _ _ (fun i hi => h3 i (by rw [hl]; simp at hi ⊢; rcases hi with h | h | h | h <;> simp [h])), bit_zero, Bool.false_or]
    rw [Bool.eq_iff_iff, decide_eq_true_eq, Bool.and_eq_true, Bool.or_eq_true, decide_eq_true_eq]
    constructor
    · intro hj2
      have hj3 : j ∈ (pre ++ m3 :: pre2) ∨ j = s3 := by simpa [or_assoc] using hj2
      rcases hj3 with h | h
      · exact ⟨(f1 j hj).2 (.inl h), .inr (f2 j h)⟩
      · exact ⟨(f1 j hj).2 (.inr (.inl h)), .inl h⟩
    · rintro ⟨j1, j2⟩
      have : j ∈ (pre ++ m3 :: pre2) ∨ j = s3 := by
        rcases (f1 j hj).1 j1 with h | h | h
        · exact .inl h
        · exact .inr h
        · rcases j2 with j2 | j2
          · exact .inr j2
          · have := f7 j h; rw [this] at j2; cases j2
      simpa [or_assoc] using this
  · have : B.first (N.byS c k d) = (s2 : Int) := e2
    rw [hb] at this
    have h0 : B.first 0#64 = -1 := by decide
    omega
  · have hz : N.byS c k d = N.byS c k d := rfl
    have : B.first (N.fst c k d) = (m2 : Int) := e1
    rw [hf] at this
    have h0 : B.first 0#64 = -1 := by decide
    omega
end W
end Go.Proofs.YtgkndhpolcnjbaaGreatDoor
namespace Go.Proofs.YtgkndhpolcnjbaaGreatDoor
open Go.RowKit Go.Sort
namespace W
structure Sit (c q : Nat → Int) (T : Int) (F G k : Nat) (y : Int) : Prop where
  ok : BdOk c
  okq : BdOk q
  T0 : 0 ≤ T
  T1 : T ≤ 1
  F64 : F < 64
  G64 : G < 64
  k64 : k < 64
  kG : k ≠ G
  mF : N.mine c T F = true
  king : D.find c T 6 = (k : Int)
  qb : ∀ s, s < 64 → q (1 + s) = if s = G then y else if s = F then 0 else c (1 + s)
  FG : F ≠ G
  ky : P.kind y ≠ 0
  cy : D.color y = T
theorem foe_iff (c : Nat → Int) (T : Int) (k a : Nat) : N.foe c T k a = true ↔ P.kind (c (1 + a)) ≠ 0 ∧ D.color (c (1 + a)) ≠ T ∧ D.hits c a k = true := by
  unfold N.foe
  simp only [Bool.and_eq_true, bne_iff_ne, ne_eq]
theorem mine_iff (c : Nat → Int) (T : Int) (s : Nat) : N.mine c T s = true ↔ P.kind (c (1 + s)) ≠ 0 ∧ D.color (c (1 + s)) = T := by
  unfold N.mine
  simp only [Bool.and_eq_true, bne_iff_ne, ne_eq, beq_iff_eq]
theorem ones_tab : ∀ j : Fin 64, bit N.ones j.val = true := by decide +kernel
section
variable {c q : Nat → Int} {T : Int} {F G k : Nat} {y : Int} (h : Sit c q T F G k y)
include h
theorem Sit.none_between {a d j : Nat} (ha : a < 64) (hd : d < 8) (hr : inRay k d a = true) (hs : N.slider (P.kind (c (1 + a))) = true) (hh : D.hits c a k = true) (hj : j < 64) (h1 : inRay k d j = true) (h2 : inRay j d a = true) : P.kind (c (1 + j)) = 0 := by
  obtain ⟨e, he, r1, _, r3⟩ := (slider_iff c a k h.ok ha h.k64 hs).1 hh
  have := dir_one k a d e h.k64 ha hd he hr r1
  subst this
  exact r3 j hj h1 h2
theorem Sit.blocks : bit (N.blocks c T) G = true ↔ ∀ a, a < 64 → N.foe c T k a = true → G = a ∨ (N.slider (P.kind (c (1 + a))) = true ∧ ∃ d, d < 8 ∧ inRay k d G = true ∧ inRay G d a = true) := by
  have hb : ∀ s, s < 64 → bit (K.by c (k : Int) (K.oc T)) s = N.foe c T k s := fun s hs => N.bit_foe c T k s h.ok h.k64 hs h.T0 h.T1
  unfold N.blocks
  rw [find_eq c T h.ok, h.king, if_pos ⟨h.T1, by omega⟩]
  generalize K.by c (k : Int) (K.oc T) = b at *
  simp only []
  by_cases c0 : B.count b = 0
  · rw [if_pos c0]
    have e := (count_zero b).1 c0
    subst e
    refine ⟨fun _ a ha hf => ?_, fun _ => ones_tab ⟨G, h.G64⟩⟩
    rw [← hb a ha, bit_zero] at hf
    cases hf
  · rw [if_neg c0]
    by_cases c1 : B.count b = 1
    · rw [if_pos c1]
      obtain ⟨s, hs, rfl⟩ := (count_one b).1 c1
      have hfs : N.foe c T k s = true := by rw [← hb s hs, bit_one s s hs]; simp
      rw [first_one s hs, Int.toNat_natCast]
      have only : ∀ a, a < 64 → N.foe c T k a = true → a = s := fun a ha hf => by
        rw [← hb a ha, bit_one s a hs] at hf
        exact of_decide_eq_true hf
      cases hsl : N.slider (P.kind (c (1 + s)))
      · rw [if_neg (by simp), bit_one s G hs, decide_eq_true_eq]
        constructor
        · intro e a ha hf
          rw [only a ha hf]; exact .inl e
        · intro hh
          rcases hh s hs hfs with e | ⟨e, _⟩
          · exact e
          · rw [hsl] at e; cases e
      · have hln : (D.straight k s || D.across k s) = true := by
          rw [N.line_back]
          exact N.slider_line c s k ((foe_iff c T k s).1 hfs).2.2 hsl
        rw [if_pos rfl, bit_or, bit_one s G hs, N.bit_between k s G h.k64 hs h.G64 hln, Bool.or_eq_true, decide_eq_true_eq]
        obtain ⟨d, hd, hr⟩ := line_dir k s h.k64 hs hln
        rw [btw_ray k d s G h.k64 hd hs h.G64 hr, Bool.and_eq_true]
        constructor
        · intro e a ha hf
          rw [only a ha hf]
          rcases e with e | e
          · exact .inl e
          · exact .inr ⟨hsl, d, hd, e⟩
        · intro hh
          rcases hh s hs hfs with e | ⟨_, d2, hd2, e1, e2⟩
          · exact .inl e
          · have := dir_one k s d d2 h.k64 hs hd hd2 hr (inRay_trans k d2 G s e1 e2)
            subst this
            exact .inr ⟨e1, e2⟩
    · rw [if_neg c1, bit_zero]
      refine ⟨(fun e => by cases e), fun hh => ?_⟩
      exfalso
      obtain ⟨a1, ha1, f1⟩ : ∃ a, a < 64 ∧ N.foe c T k a = true := by
        apply Classical.byContradiction
        intro hn
        exact c0 ((count_zero b).2 (bit_ext fun j hj => by
          rw [bit_zero, hb j hj]
          cases e : N.foe c T k j
          · rfl
          · exact absurd ⟨j, hj, e⟩ hn))
      obtain ⟨a2, ha2, f2, hne⟩ : ∃ a, a < 64 ∧ N.foe c T k a = true ∧ a ≠ a1 := by
        apply Classical.byContradiction
        intro hn
        exact c1 ((count_one b).2 ⟨a1, ha1, bit_ext fun j hj => by
          rw [bit_one a1 j ha1, hb j hj]
          by_cases e : j = a1
          · subst e; rw [f1]; simp
          · rw [decide_eq_false e]
            cases e2 : N.foe c T k j
            · rfl
            · exact absurd ⟨j, hj, e2, e⟩ hn⟩)
      obtain ⟨k1, _, h1⟩ := (foe_iff c T k a1).1 f1
      obtain ⟨k2, _, h2⟩ := (foe_iff c T k a2).1 f2
      rcases hh a1 ha1 f1 with e1 | ⟨s1, d1, hd1, r1, r2⟩
      · rcases hh a2 ha2 f2 with e2 | ⟨s2, d2, hd2, q1, q2⟩
        · exact hne (by omega)
        · subst e1
          exact k1 (h.none_between ha2 hd2 (inRay_trans k d2 G a2 q1 q2) s2 h2 ha1 q1 q2)
      · rcases hh a2 ha2 f2 with e2 | ⟨s2, d2, hd2, q1, q2⟩
        · subst e2
          exact k2 (h.none_between ha1 hd1 (inRay_trans k d1 G a1 r1 r2) s1 h1 ha2 r1 r2)
        · have := dir_one k G d1 d2 h.k64 h.G64 hd1 hd2 r1 q1
          subst this
          rcases trich G d1 a1 a2 r2 q2 with e | e | e
          · exact hne e.symm
          · exact k1 (h.none_between ha2 hd1 (inRay_trans k d1 G a2 q1 q2) s2 h2 ha1 (inRay_trans k d1 G a1 r1 r2) e)
          · exact k2 (h.none_between ha1 hd1 (inRay_trans k d1 G a1 r1 r2) s1 h1 ha2 (inRay_trans k d1 G a2 q1 q2) e)
theorem Sit.line : bit (N.line c (F : Int)) G = true ↔ ∀ d s, d < 8 → s < 64 → PinR c T k d F s → inRay k d G = true ∧ (G = s ∨ inRay G d s = true) := by
  have hcol : T = 0 ∨ T = 1 := by have := h.T0; have := h.T1; omega
  unfold N.line
  rw [N.on_color c T F h.ok hcol h.mF]
  cases ho : N.at' (N.pins c T) (F : Int) with
  | none =>
    have hn := (N.at_none_iff _ _).1 ho
    have hin : (K.there (F : Int) && bit (S.all c) ((F : Int)).toNat) = true := by
      rw [Int.toNat_natCast, occ_kind c h.ok F h.F64, Bool.and_eq_true]
      refine ⟨?_, by have := ((mine_iff c T F).1 h.mF).1; simpa using this⟩
      unfold K.there
      have := h.F64
      simp
      omega
    show bit (if (K.there (F : Int) && bit (S.all c) ((F : Int)).toNat) = true then N.ones else 0#64) G = true ↔ _
    rw [if_pos hin]
    refine ⟨fun _ d s hd hs hp => ?_, fun _ => ones_tab ⟨G, h.G64⟩⟩
    exfalso
    obtain ⟨l, hl⟩ := N.res_of c T k d F s h.ok h.k64 hd ((pinR_at c T k d F s h.k64 hd h.F64 hs).2 hp)
    exact hn _ ((N.mem_pins c T h.ok _).2 ⟨h.T1, k, h.k64, h.king, d, hd, hl⟩) rfl
  | some x =>
    obtain ⟨hx, e1⟩ := N.at_mem _ _ _ ho
    obtain ⟨_, k', hk', ek, d, hd, hres⟩ := (N.mem_pins c T h.ok x).1 hx
    have : k' = k := by have := h.king; omega
    subst this
    obtain ⟨m, s, hm, hs, hat, em, _, _, _⟩ := N.res_spec c T k' d x h.ok hk' hd hres
    have : m = F := by omega
    subst this
    have hp := (pinR_at c T k' d m s hk' hd hm hs).1 hat
    show bit x.2.2 G = true ↔ _
    rw [lin_bits c T k' d m s x h.ok hk' hd hm hs hres hp G h.G64, Bool.and_eq_true, Bool.or_eq_true, decide_eq_true_eq]
    constructor
    · intro e d2 s2 hd2 hs2 hp2
      have := dir_one k' m d d2 hk' hm hd hd2 hp.km hp2.km
      subst this
      have := lin_bits c T k' d m s2 x h.ok hk' hd hm hs2 hres hp2 G h.G64
      rw [lin_bits c T k' d m s x h.ok hk' hd hm hs hres hp G h.G64] at this
      have e3 : (inRay k' d G && (decide (G = s2) || inRay G d s2)) = true := by
        rw [← this, Bool.and_eq_true, Bool.or_eq_true, decide_eq_true_eq]
        exact e
      rw [Bool.and_eq_true, Bool.or_eq_true, decide_eq_true_eq] at e3
      exact e3
    · intro hh
      exact hh d s hd hs hp
theorem Sit.q_other {s : Nat} (hs : s < 64) (h1 : s ≠ G) (h2 : s ≠ F) : q (1 + s) = c (1 + s) := by rw [h.qb s hs, if_neg h1, if_neg h2]
theorem Sit.q_G : q (1 + G) = y := by rw [h.qb G h.G64, if_pos rfl]
theorem Sit.q_F : P.kind (q (1 + F)) = 0 := by rw [h.qb F h.F64, if_neg h.FG, if_pos rfl]; rfl
theorem Sit.well : (∀ a, a < 64 → N.foe q T k a = false) ↔ bit (N.blocks c T) G = true ∧ bit (N.line c (F : Int)) G = true := by
  obtain ⟨kF, cF⟩ := (mine_iff c T F).1 h.mF
  have yk : P.kind (q (1 + G)) ≠ 0 := by rw [h.q_G]; exact h.ky
  rw [h.blocks, h.line]
  constructor
  · intro hno
    constructor
    · intro a ha hf
      obtain ⟨f1, f2, f3⟩ := (foe_iff c T k a).1 hf
      by_cases eG : G = a
      · exact .inl eG
      · right
        have aF : a ≠ F := fun e => by subst e; exact f2 cF
        have eq := h.q_other ha (fun e => eG e.symm) aF
        have nf := hno a ha
        cases hsl : N.slider (P.kind (c (1 + a)))
        · have := leaper c q a k h.ok h.okq ha h.k64 eq hsl
          rw [(foe_iff q T k a).2 ⟨by rw [eq]; exact f1, by rw [eq]; exact f2, by rw [this]; exact f3⟩] at nf
          cases nf
        · refine ⟨rfl, ?_⟩
          obtain ⟨d, hd, r1, r2, r3⟩ := (slider_iff c a k h.ok ha h.k64 hsl).1 f3
          apply Classical.byContradiction
          intro hn
          have hq : D.hits q a k = true := (slider_iff q a k h.okq ha h.k64 (by rw [eq]; exact hsl)).2 ⟨d, hd, r1, by rw [eq]; exact r2, fun j hj j1 j2 => by
            by_cases jG : j = G
            · subst jG; exact absurd ⟨d, hd, j1, j2⟩ hn
            · by_cases jF : j = F
              · subst jF; exact absurd (r3 j hj j1 j2) kF
              · rw [h.q_other hj jG jF]; exact r3 j hj j1 j2⟩
          rw [(foe_iff q T k a).2 ⟨by rw [eq]; exact f1, by rw [eq]; exact f2, hq⟩] at nf
          cases nf
    · intro d s hd hs hp
      have hks := inRay_trans k d F s hp.km hp.ms
      by_cases eG : G = s
      · exact ⟨by rw [eG]; exact hks, .inl eG⟩
      · have sF : s ≠ F := fun e => by
          have := hp.mines
          rw [e, h.mF] at this; cases this
        have eq := h.q_other hs (fun e => eG e.symm) sF
        have nf := hno s hs
        have hsl : N.slider (P.kind (c (1 + s))) = true := by
          have := hp.goes
          unfold N.goes at this
          unfold N.slider
          simp only [Bool.or_eq_true, Bool.and_eq_true, beq_iff_eq] at this ⊢
          rcases this with e | ⟨_, e⟩ | ⟨_, e⟩ <;> simp [e]
        have cs : D.color (c (1 + s)) ≠ T := fun e => by
          have := hp.mines
          rw [(mine_iff c T s).2 ⟨hp.kinds, e⟩] at this; cases this
        apply Classical.byContradiction
        intro hn
        have hq : D.hits q s k = true := (slider_iff q s k h.okq hs h.k64 (by rw [eq]; exact hsl)).2 ⟨d, hd, hks, by rw [eq]; exact hp.goes, fun j hj j1 j2 => by
          by_cases jG : j = G
          · subst jG; exact absurd ⟨j1, .inr j2⟩ hn
          · by_cases jF : j = F
            · subst jF; exact h.q_F
            · rw [h.q_other hj jG jF]; exact hp.empty j hj j1 j2 jF⟩
        rw [(foe_iff q T k s).2 ⟨by rw [eq]; exact hp.kinds, by rw [eq]; exact cs, hq⟩] at nf
        cases nf
  · rintro ⟨hA, hB⟩ a ha
    cases hf : N.foe q T k a
    · rfl
    · exfalso
      obtain ⟨f1, f2, f3⟩ := (foe_iff q T k a).1 hf
      have aG : a ≠ G := fun e => by subst e; rw [h.q_G] at f2; exact f2 h.cy
      have aF : a ≠ F := fun e => by subst e; exact f1 h.q_F
      have eq := h.q_other ha aG aF
      rw [eq] at f1 f2
      cases hsl : N.slider (P.kind (c (1 + a)))
      · have := leaper c q a k h.ok h.okq ha h.k64 eq hsl
        rcases hA a ha ((foe_iff c T k a).2 ⟨f1, f2, by rw [← this]; exact f3⟩) with e | ⟨e, _⟩
        · exact aG e.symm
        · rw [hsl] at e; cases e
      · obtain ⟨d, hd, r1, r2, r3⟩ := (slider_iff q a k h.okq ha h.k64 (by rw [eq]; exact hsl)).1 f3
        rw [eq] at r2
        have nG : ∀ (_ : inRay k d G = true) (_ : inRay G d a = true), False := fun g1 g2 => yk (r3 G h.G64 g1 g2)
        have rest : ∀ j, j < 64 → inRay k d j = true → inRay j d a = true → j ≠ F → P.kind (c (1 + j)) = 0 := fun j hj j1 j2 jF => by
          have jG : j ≠ G := fun e => by subst e; exact nG j1 j2
          rw [← h.q_other hj jG jF]; exact r3 j hj j1 j2
        by_cases hF : inRay k d F = true ∧ inRay F d a = true
        · have hp : PinR c T k d F a := ⟨hF.1, hF.2, fun j hj j1 j2 j3 => rest j hj j1 j2 j3, kF, f1, h.mF, by
            cases e : N.mine c T a
            · rfl
            · exact absurd ((mine_iff c T a).1 e).2 f2, r2⟩
          obtain ⟨g1, g2⟩ := hB d a hd ha hp
          rcases g2 with g2 | g2
          · exact aG g2.symm
          · exact nG g1 g2
        · have hc : D.hits c a k = true := (slider_iff c a k h.ok ha h.k64 hsl).2 ⟨d, hd, r1, r2, fun j hj j1 j2 => by
            by_cases jF : j = F
            · subst jF; exact absurd ⟨j1, j2⟩ hF
            · exact rest j hj j1 j2 jF⟩
          rcases hA a ha ((foe_iff c T k a).2 ⟨f1, f2, hc⟩) with e | ⟨_, d2, hd2, g1, g2⟩
          · exact aG e.symm
          · have := dir_one k a d d2 h.k64 ha hd hd2 r1 (inRay_trans k d2 G a g1 g2)
            subst this
            exact nG g1 g2
end
end W
end Go.Proofs.YtgkndhpolcnjbaaGreatDoor
