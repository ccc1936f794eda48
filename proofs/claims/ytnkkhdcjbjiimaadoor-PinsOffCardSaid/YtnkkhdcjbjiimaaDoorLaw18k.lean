/- The laws of layer 18: a man taken off. No walk. -/
import Derived.Test.YtnkkhdcjbjiimaaDoorLaw18j
namespace Go.Proofs.YtnkkhdcjbjiimaaDoor
open Go.RowKit Go.Sort

namespace N
theorem off_hits (c : Nat → Int) (color : Int) (k s a : Nat) (hc : BdOk c) (hk : k < 64) (hs : s < 64) (ha : a < 64) (hne : a ≠ s) (hms : mine c color s = true) (hma : mine c color a = false) (hka : P.kind (c (1 + a)) ≠ 0) :
    D.hits (off c s) a k = true ↔ (D.hits c a k = true ∨ ∃ d, d < 8 ∧ PinAt c color k d s a) := by
  have hq := off_bd c s hc
  rw [hits_K (off c s) a k hq ha hk, hits_K c a k hc ha hk, off_at c s a hne]
  have nopin : lineK (P.kind (c (1 + a))) a k = false → ¬ ∃ d, d < 8 ∧ PinAt c color k d s a := by
    rintro h ⟨d, hd, hp⟩
    have hr := (hp.ray hk hd).2.1
    rw [← lineK_back, lineK_goes _ k d a hk hd ha hr] at h
    obtain ⟨_, _, _, _, _, _, _, _, _, _, hg⟩ := hp
    rw [hg] at h; cases h
  rcases hitsK_two (P.kind (c (1 + a))) (D.color (c (1 + a))) (S.all (off c s)) (S.all c) a k with ⟨hl, h1, h2⟩ | ⟨hl, h1⟩
  · rw [h1, h2]
    have hln := lineK_line _ a k hl
    have hln2 : (D.straight k a || D.across k a) = true := by rw [line_back]; exact hln
    rw [free_off c s a k hs]
    constructor
    · intro hf
      cases hfr : Go.Proofs.YtnkkhdcjbjiimaaDoor.free (S.all c) a k
      · right
        obtain ⟨d, hd, hr⟩ := line_dir k a hk ha hln2
        have hf' : ∀ j, j < 64 → j ≠ s → btw k a j = true → bit (S.all c) j = false := fun j hj hjs hb => hf j hj hjs (by rw [← btw_back a k j ha hk hj hln]; exact hb)
        have hbs : btw k a s = true := by
          cases hb : btw k a s
          · exfalso
            have : Go.Proofs.YtnkkhdcjbjiimaaDoor.free (S.all c) a k = true := (free_iff _ _ _).2 fun j hj hbj => by
              by_cases e : j = s
              · subst e; rw [← btw_back a k j ha hk hj hln, hb] at hbj; cases hbj
              · exact hf j hj e hbj
            rw [this] at hfr; cases hfr
          · rfl
        refine ⟨d, hd, pin_of_free c color k s a d hc hk hs ha hd hne hr hms hma hka ?_ hf' hbs⟩
        rw [← lineK_goes _ k d a hk hd ha hr, lineK_back]; exact hl
      · left; rfl
    · rintro (h | ⟨d, hd, hp⟩)
      · intro j hj _ hb
        exact (free_iff _ _ _).1 h j hj hb
      · intro j hj hjs hb
        exact hp.free hc hk hd ha j hj hjs (by rw [btw_back a k j ha hk hj hln]; exact hb)
  · rw [h1]
    constructor
    · intro h; exact .inl h
    · rintro (h | h)
      · exact h
      · exact absurd h (nopin hl)
theorem bit_by_iff (c : Nat → Int) (a b : Nat) (color : Int) (hc : BdOk c) (ha : a < 64) (hb : b < 64) (h0 : 0 ≤ color) (h1 : color ≤ 1) :
    bit (K.by c b color) a = true ↔ (P.kind (c (1 + a)) ≠ 0 ∧ D.color (c (1 + a)) = color ∧ D.hits c a b = true) := by
  rw [bit_by c a b color hc ha hb h0 h1, Bool.and_eq_true, Bool.and_eq_true, bne_iff_ne, beq_iff_eq]
theorem off_by (c : Nat → Int) (color : Int) (k s : Nat) (hc : BdOk c) (hk : k < 64) (hs : s < 64) (hcol : color = 0 ∨ color = 1) (hms : mine c color s = true) (a : Nat) (ha : a < 64) :
    bit (K.by (off c s) k (1 - color)) a = true ↔ (bit (K.by c k (1 - color)) a = true ∨ ∃ d, d < 8 ∧ PinAt c color k d s a) := by
  rw [bit_by_iff (off c s) a k (1 - color) (off_bd c s hc) ha hk (by omega) (by omega), bit_by_iff c a k (1 - color) hc ha hk (by omega) (by omega)]
  have hcs : D.color (c (1 + s)) = color := by unfold mine at hms; rw [Bool.and_eq_true, beq_iff_eq] at hms; exact hms.2
  by_cases e : a = s
  · subst e
    constructor
    · rintro ⟨h, _⟩; rw [off_same] at h; exact absurd rfl h
    · rintro (⟨_, h, _⟩ | ⟨d, hd, hp⟩)
      · omega
      · have := (hp.ray hk hd).2.2
        rw [inRay_self a d ha hd] at this; cases this
  · rw [off_at c s a e]
    by_cases hka : P.kind (c (1 + a)) = 0
    · constructor
      · rintro ⟨h, _⟩; exact absurd hka h
      · rintro (⟨h, _⟩ | ⟨d, hd, hp⟩)
        · exact absurd hka h
        · obtain ⟨_, _, _, _, _, _, _, h4, _⟩ := hp
          exact absurd hka h4
    · by_cases hco : D.color (c (1 + a)) = 1 - color
      · have hma : mine c color a = false := by
          unfold mine
          have : (D.color (c (1 + a)) == color) = false := by rw [beq_eq_false_iff_ne]; omega
          rw [this, Bool.and_false]
        rw [off_hits c color k s a hc hk hs ha e hms hma hka]
        constructor
        · rintro ⟨h1, h2, h3 | h3⟩
          · exact .inl ⟨h1, h2, h3⟩
          · exact .inr h3
        · rintro (⟨h1, h2, h3⟩ | h3)
          · exact ⟨h1, h2, .inl h3⟩
          · exact ⟨hka, hco, .inr h3⟩
      · constructor
        · rintro ⟨_, h, _⟩; exact absurd h hco
        · rintro (⟨_, h, _⟩ | ⟨d, hd, hp⟩)
          · exact absurd h hco
          · exfalso
            obtain ⟨_, _, _, _, _, _, _, _, _, h6, _⟩ := hp
            obtain ⟨x0, x1⟩ := hc a ha
            have hz : (P.kind (c (1 + a)) != 0) = true := by simpa using hka
            have h2 := (isB_true _ x0 x1 (by rw [← isB_kind _ x0 x1]; exact hz)).2.2
            rw [color_eq _ (by rw [← isB_kind _ x0 x1]; exact hz)] at h2
            unfold mine at h6
            rw [hz, Bool.true_and, beq_eq_false_iff_ne] at h6
            omega
theorem on_color (c : Nat → Int) (color : Int) (s : Nat) (hc : BdOk c) (hcol : color = 0 ∨ color = 1) (hms : mine c color s = true) : on c (s : Int) = at' (pins c color) (s : Int) := by
  have hcs : D.color (c (1 + s)) = color := by unfold mine at hms; rw [Bool.and_eq_true, beq_iff_eq] at hms; exact hms.2
  have other : at' (pins c (1 - color)) (s : Int) = none := by
    rw [at_none_iff]
    intro x hx e
    have := pins_mine c (1 - color) hc x s hx e
    unfold mine at this
    rw [Bool.and_eq_true, beq_iff_eq] at this
    omega
  unfold on
  rcases hcol with rfl | rfl
  · rw [show (1 : Int) = 1 - 0 from rfl, other]; cases at' (pins c 0) (s : Int) <;> rfl
  · rw [show (0 : Int) = 1 - 1 from rfl, other]; rfl
theorem off_none (c : Nat → Int) (color : Int) (k s : Nat) (hc : BdOk c) (hk : k < 64) (hs : s < 64) (hcol : color = 0 ∨ color = 1) (hms : mine c color s = true) (hf : D.find c color 6 = (k : Int)) (hon : on c (s : Int) = none) :
    K.by (off c s) k (1 - color) = K.by c k (1 - color) ∧ bit (men (pins c color)) s = false := by
  rw [on_color c color s hc hcol hms, at_none_iff] at hon
  constructor
  · refine bit_ext fun a ha => ?_
    rw [Bool.eq_iff_iff, off_by c color k s hc hk hs hcol hms a ha]
    constructor
    · rintro (h | ⟨d, hd, hp⟩)
      · exact h
      · exfalso
        obtain ⟨line, hr⟩ := res_of c color k d s a hc hk hd hp
        exact hon _ ((mem_pins c color hc _).2 ⟨by omega, k, hk, hf, d, hd, hr⟩) rfl
    · exact .inl
  · cases hb : bit (men (pins c color)) s
    · rfl
    · obtain ⟨x, hx, e⟩ := (bit_men' c color s).1 hb
      exact absurd e (hon x hx)
theorem off_some (c : Nat → Int) (color : Int) (k s : Nat) (x : Int × Int × BitVec 64) (hc : BdOk c) (hk : k < 64) (hs : s < 64) (hcol : color = 0 ∨ color = 1) (hms : mine c color s = true) (hf : D.find c color 6 = (k : Int)) (hon : on c (s : Int) = some x) :
    ∃ a : Nat, a < 64 ∧ x.2.1 = (a : Int) ∧ K.by (off c s) k (1 - color) = bOr (K.by c k (1 - color)) (B.one (a : Int)) ∧ bit (men (pins c color)) s = true ∧ bit x.2.2 a = true ∧ bit x.2.2 s = true := by
  rw [on_color c color s hc hcol hms] at hon
  obtain ⟨hx, e⟩ := at_mem _ _ _ hon
  obtain ⟨_, k', hk', hf', d, hd, m, a, hm, ha, hp, e1, e2, b1, b2⟩ := pins_spec c color hc x hx
  have hkk : k' = k := by omega
  have hmm : m = s := by omega
  subst hkk hmm
  refine ⟨a, ha, e2, ?_, (bit_men' c color m).2 ⟨x, hx, e⟩, b2, b1⟩
  refine bit_ext fun j hj => ?_
  rw [Bool.eq_iff_iff, off_by c color k' m hc hk hm hcol hms j hj, bit_or, bit_one a j ha, Bool.or_eq_true, decide_eq_true_eq]
  constructor
  · rintro (h | ⟨d', hd', hp'⟩)
    · exact .inl h
    · right
      have hdd : d' = d := inRay_one k' d' d m hd' hd (hp'.ray hk hd').1 (hp.ray hk hd).1
      subst hdd
      obtain ⟨l1, r1⟩ := res_of c color k' d' m j hc hk hd' hp'
      obtain ⟨l2, r2⟩ := res_of c color k' d' m a hc hk hd hp
      rw [r1] at r2
      have := congrArg (fun o : Option (Int × Int × BitVec 64) => o.map fun y => y.2.1) r2
      simp at this
      omega
  · rintro (h | h)
    · exact .inl h
    · subst h; exact .inr ⟨d, hd, hp⟩
end N

end Go.Proofs.YtnkkhdcjbjiimaaDoor
