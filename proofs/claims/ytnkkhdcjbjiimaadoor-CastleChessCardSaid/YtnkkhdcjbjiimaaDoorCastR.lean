/- Castlings, in plain Lean: without the right. -/
import Derived.Test.YtnkkhdcjbjiimaaDoorCastQ
namespace Go.Proofs.YtnkkhdcjbjiimaaDoor
open Go.RowKit Go.Sort

/-- The same board. -/
def SameBd (c c' : Nat → Int) : Prop := ∀ s, s < 64 → c (1 + s) = c' (1 + s)
theorem SameBd.upTo {c c' : Nat → Int} (h : SameBd c c') (g : Int → Bool) : ∀ n, n ≤ 64 → S.upTo c g n = S.upTo c' g n
  | 0, _ => rfl
  | n + 1, hn => by
    have ih := h.upTo g n (by omega)
    unfold S.upTo
    rw [h n (by omega), ih]
theorem SameBd.all {c c' : Nat → Int} (h : SameBd c c') : S.all c = S.all c' := h.upTo (fun _ => true) 64 (Nat.le_refl _)
theorem SameBd.of {c c' : Nat → Int} (h : SameBd c c') (color kind : Int) : S.of c color kind = S.of c' color kind := h.upTo _ 64 (Nat.le_refl _)
theorem SameBd.find {c c' : Nat → Int} (h : SameBd c c') (color kind : Int) : S.find c color kind = S.find c' color kind := by unfold S.find; rw [h.of]
theorem SameBd.by {c c' : Nat → Int} (h : SameBd c c') (s color : Int) : K.by c s color = K.by c' s color := by
  unfold K.by K.acc
  simp only [h.all, h.of]
theorem SameBd.on {c c' : Nat → Int} (h : SameBd c c') (s color : Int) : K.on c s color = K.on c' s color := by unfold K.on; rw [h.by]
theorem SameBd.upd {c c' : Nat → Int} (h : SameBd c c') (i : Nat) (v : Int) : SameBd (upd c i v) (Go.Proofs.YtnkkhdcjbjiimaaDoor.upd c' i v) := fun s hs => by
  unfold Go.Proofs.YtnkkhdcjbjiimaaDoor.upd
  split
  · rfl
  · exact h s hs
theorem same_upd (c : Nat → Int) (i : Nat) (v : Int) (hi : 65 ≤ i) : SameBd (upd c i v) c := fun s hs => upd_other _ _ _ _ (by omega)
theorem SameBd.trans {a b c : Nat → Int} (h : SameBd a b) (k : SameBd b c) : SameBd a c := fun s hs => (h s hs).trans (k s hs)

namespace T
theorem mayOk_same {c c' : Nat → Int} (h : SameBd c c') (h0 : c 0 = c' 0) (t d k s : Nat) : mayOk c t d k s = mayOk c' t d k s := by
  have hb : SameBd (bare c k s) (bare c' k s) := (h.upd _ _).upd _ _
  have e1 : ∀ x, emptyB c k s x = emptyB c' k s x := fun x => by unfold emptyB; rw [hb.all]
  have e2 : ∀ x, safeB c t k s x = safeB c' t k s x := fun x => by unfold safeB; rw [hb.on, h.of, h0]
  unfold mayOk
  simp only [e1, e2]
theorem cand_same {c c' : Nat → Int} (h : SameBd c c') (h0 : c 0 = c' 0) (t d k : Nat) (ht : t < 2) (hr : c (rightAt t d) = c' (rightAt t d)) : cand c t d k = cand c' t d k := by
  unfold cand
  have e : rk c t d = rk c' t d := by unfold rk; rw [hr]
  rw [hr, e]
  by_cases hf : c' (rightAt t d) < 0 ∨ 7 < c' (rightAt t d)
  · rw [if_pos hf, if_pos hf]
  · rw [if_neg hf, if_neg hf, mayOk_same h h0]
    have hk : rk c' t d < 64 := by unfold rk; omega
    unfold rookOk
    rw [h _ hk]
theorem cand_no {c : Nat → Int} (t d k : Nat) (h : c (rightAt t d) < 0) : cand c t d k = none := by
  unfold cand
  rw [if_pos (.inl h)]
/-- Without a right. -/
def lost (c : Nat → Int) (d : Nat) : Nat → Int := upd c (rightAt (c 78).toNat d) (-1)
def lostAll (c : Nat → Int) : Nat → Int := upd (upd c (rightAt (c 78).toNat 0) (-1)) (rightAt (c 78).toNat 1) (-1)
theorem clist_lostAll (c : Nat → Int) : clist (lostAll c) = [] := by
  unfold clist
  split
  · rename_i h
    have h78 : lostAll c 78 = c 78 := by unfold lostAll; rw [upd_other _ _ _ _ (by unfold rightAt; omega), upd_other _ _ _ _ (by unfold rightAt; omega)]
    have r1 : lostAll c (rightAt (lostAll c 78).toNat 1) = -1 := by rw [h78]; unfold lostAll; rw [upd_same]
    have r0 : lostAll c (rightAt (lostAll c 78).toNat 0) = -1 := by rw [h78]; unfold lostAll; rw [upd_other _ _ _ _ (by unfold rightAt; omega), upd_same]
    simp only [List.filterMap_cons, List.filterMap_nil]
    rw [cand_no _ 1 _ (by rw [r1]; decide), cand_no _ 0 _ (by rw [r0]; decide)]
    rfl
  · rfl
/-- The side of a castling. -/
def sd (x : Nat × Nat) : Nat := if x.1 < x.2 then 0 else 1
theorem clist_lost (c : Nat → Int) (d : Nat) (hc : PosOk c) (hd : d < 2) : clist (lost c d) = (clist c).filter fun x => sd x != d := by
  have h78 : lost c d 78 = c 78 := by unfold lost; rw [upd_other _ _ _ _ (by unfold rightAt; omega)]
  have h0 : lost c d 0 = c 0 := by unfold lost; rw [upd_other _ _ _ _ (by unfold rightAt; omega)]
  have hs : SameBd (lost c d) c := same_upd _ _ _ (by unfold rightAt; omega)
  unfold clist
  rw [h78, h0, hs.find]
  by_cases h : (0 ≤ c 78 ∧ c 78 ≤ 1) ∧ castles (c 0) = true ∧ 0 ≤ S.find c (c 78) 6 ∧ (S.find c (c 78) 6).toNat / 8 = 7 * (c 78).toNat
  · rw [if_pos h, if_pos h]
    obtain ⟨⟨t0, t1⟩, hv, hf, hr⟩ := h
    have hcb := pos_bd hc
    obtain ⟨t, ht⟩ : ∃ t : Nat, c 78 = (t : Int) := ⟨(c 78).toNat, by omega⟩
    rw [ht] at hf hr t1 ⊢
    rw [Int.toNat_natCast] at hr ⊢
    rw [find_eq c (t : Int) hcb] at hf hr ⊢
    obtain ⟨hi, hk64⟩ := find_is c (t : Int) hf
    obtain ⟨k, hk⟩ : ∃ k : Nat, D.find c (t : Int) 6 = (k : Int) := ⟨(D.find c (t : Int) 6).toNat, by omega⟩
    rw [hk, Int.toNat_natCast] at hr hi hk64 ⊢
    rw [is_val hcb k hk64 _ _ (by omega) (by omega), beq_iff_eq] at hi
    have his : ∀ d' s, d' < 2 → cand c t d' k = some s → sd (k, s) = d' := fun d' s hd' he => by
      have := cand_is c t d' k s (by omega) hd' ht (by omega) hi he
      have h1 := this.dir
      unfold sd
      by_cases hl : k < s
      · rw [if_pos hl, h1.1 hl]
      · rw [if_neg hl]
        have := fun e => hl (h1.2 e)
        omega
    have hno : cand (lost c d) t d k = none := cand_no t d k (by unfold lost; rw [ht, Int.toNat_natCast, upd_same]; decide)
    have hoth : ∀ d', d' < 2 → d' ≠ d → cand (lost c d) t d' k = cand c t d' k := fun d' hd' hne => by
      refine cand_same hs h0 t d' k (by omega) ?_
      unfold lost
      rw [upd_other _ _ _ _ (by unfold rightAt; rw [ht, Int.toNat_natCast]; omega)]
    simp only [List.filterMap_cons, List.filterMap_nil]
    rcases (show d = 0 ∨ d = 1 by omega) with rfl | rfl
    · rw [hno, hoth 1 (by omega) (by omega)]
      cases e1 : cand c t 1 k with
      | none =>
        cases e0 : cand c t 0 k with
        | none => rfl
        | some s0 => simp [his 0 s0 (by omega) e0]
      | some s1 =>
        cases e0 : cand c t 0 k with
        | none => simp [his 1 s1 (by omega) e1]
        | some s0 => simp [his 1 s1 (by omega) e1, his 0 s0 (by omega) e0]
    · rw [hno, hoth 0 (by omega) (by omega)]
      cases e1 : cand c t 1 k with
      | none =>
        cases e0 : cand c t 0 k with
        | none => rfl
        | some s0 => simp [his 0 s0 (by omega) e0]
      | some s1 =>
        cases e0 : cand c t 0 k with
        | none => simp [his 1 s1 (by omega) e1]
        | some s0 => simp [his 1 s1 (by omega) e1, his 0 s0 (by omega) e0]
  · rw [if_neg h, if_neg h]; rfl
theorem filter_get {α : Type} (p : α → Bool) : ∀ (l : List α) (i : Nat) (x : α), l[i]? = some x → p x = true → (l.filter p)[((l.take i).filter p).length]? = some x
  | [], _, _, h, _ => by cases h
  | a :: l, 0, x, h, hp => by
    simp at h
    subst h
    simp [hp]
  | a :: l, i + 1, x, h, hp => by
    have ih := filter_get p l i x (by simpa using h) hp
    rw [List.take_succ_cons]
    cases ha : p a
    · rw [List.filter_cons_of_neg (by simp [ha]), List.filter_cons_of_neg (by simp [ha])]; exact ih
    · rw [List.filter_cons_of_pos ha, List.filter_cons_of_pos ha]
      simpa using ih
theorem filter_take {α : Type} (p : α → Bool) (l : List α) (i : Nat) (x : α) (h : l[i]? = some x) : ((l.take (i + 1)).filter p).length = ((l.take i).filter p).length + (if p x then 1 else 0) := by
  rw [List.take_add_one, h, List.filter_append, List.length_append]
  cases hp : p x <;> simp [hp]
end T

end Go.Proofs.YtnkkhdcjbjiimaaDoor
