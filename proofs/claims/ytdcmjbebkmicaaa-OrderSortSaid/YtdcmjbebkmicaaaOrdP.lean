/- The plain law of the sorted row: one put in its place; the same moves; what stays in its order. -/
import Derived.Test.YtdcmjbebkmicaaaLaw27a
namespace Go.Proofs.Ytdcmjbebkmicaaa
open Go.RowKit Go.Sort

namespace O
theorem sorted_snoc {c : Nat → Int} {t s : List Mv} {x : Mv} (k : Nat) (hk : k ≤ s.length) (h : Sorted c t s) (h1 : ∀ j y, s[j]? = some y → k ≤ j → key c x < key c y) (h2 : ∀ j y, s[j]? = some y → j < k → key c y ≤ key c x) :
    Sorted c (t ++ [x]) (s.take k ++ x :: s.drop k) := by
  have hlen := sorted_len h
  obtain ⟨g, hp, hs, he⟩ := h
  obtain ⟨n, hn⟩ : ∃ n, t.length = n := ⟨_, rfl⟩
  have hget : ∀ j, j < n → s[j]? = some (place t (g j)) := fun j hj => by
    rw [he, Array.getElem?_toList, Stab.row_get?, if_pos (by omega)]
  have hg : ∀ j, j < n → g j < n := fun j hj => by
    obtain ⟨y, hy, e⟩ := hp.within j ⟨Nat.zero_le _, by omega⟩
    rw [e]; simpa [hn] using hy.2
  have hgn : g n = n := by
    have := hp.stays n (by omega)
    simpa using this
  have hpl : ∀ j, j < n → place (t ++ [x]) j = place t j := fun j hj => by
    unfold place; rw [List.getElem?_append_left (by omega)]
  have hpx : place (t ++ [x]) n = x := by
    unfold place; rw [List.getElem?_append_right (by omega), hn, Nat.sub_self]; rfl
  have hl1 : (t ++ [x]).length = n + 1 := by simp [hn]
  have hkn : k ≤ n := by omega
  rw [hn] at hp hs
  refine ⟨Stab.rot g k n (n + 1), ?_, ?_, ?_⟩
  · rw [hl1]
    exact (hp.mono (Nat.le_refl _) (Nat.le_succ _)).trans ((Stab.Prm.rot g k n (n + 1) hkn (Nat.le_succ _)).mono (Nat.zero_le _) (Nat.le_refl _))
  · rw [hl1]
    refine Stab.ins_down k (Nat.zero_le _) hkn ?_ ?_ ?_
    · intro a b ha hab hb
      have := hs a b ha hab hb
      unfold R at this ⊢
      rw [hpl _ (hg a (by omega)), hpl _ (hg b hb)]
      exact this
    · intro a _ ha
      have := h2 a _ (hget a (by omega)) ha
      have hga := hg a (by omega)
      unfold R
      rw [hpl _ hga, hgn, hpx]
      omega
    · intro a ha hb
      have := h1 a _ (hget a hb) ha
      unfold R
      rw [hpl _ (hg a hb), hgn, hpx]
      exact .inl this
  · apply List.ext_getElem?
    intro i
    conv => rhs; rw [Array.getElem?_toList, Stab.row_get?, hl1]
    unfold Stab.rot
    by_cases hi : i < k
    · rw [List.getElem?_append_left (by rw [List.length_take]; omega), List.getElem?_take_of_lt hi, hget i (by omega), if_pos (by omega), if_neg (by omega), if_neg (by omega), hpl _ (hg i (by omega))]
    · rw [List.getElem?_append_right (by rw [List.length_take]; omega), List.length_take, Nat.min_eq_left hk]
      by_cases hi2 : i = k
      · subst hi2
        rw [Nat.sub_self, if_pos (by omega), if_pos (by omega), Nat.zero_add, hgn, hpx]; rfl
      · obtain ⟨m, rfl⟩ : ∃ m, i = k + 1 + m := ⟨i - (k + 1), by omega⟩
        rw [show k + 1 + m - k = m + 1 by omega, List.getElem?_cons_succ, List.getElem?_drop]
        by_cases hi3 : k + 1 + m < n + 1
        · rw [hget (k + m) (by omega), if_pos hi3, if_neg (by omega), if_pos (by omega), show k + 1 + m - (n + 1 - n) = k + m by omega, hpl _ (hg _ (by omega))]
        · rw [List.getElem?_eq_none (by omega), if_neg hi3]
/-- Where one belongs in a sorted row. -/
theorem spot {c : Nat → Int} {s : List Mv} (x : Mv) (hs : ∀ (i j : Nat) (a b : Mv), i < j → s[i]? = some a → s[j]? = some b → key c a ≤ key c b) :
    ∃ k, k ≤ s.length ∧ (∀ (j : Nat) (y : Mv), s[j]? = some y → k ≤ j → key c x < key c y) ∧ ∀ j y, s[j]? = some y → j < k → key c y ≤ key c x := by
  have : ∀ n, n ≤ s.length → (∀ j y, s[j]? = some y → n ≤ j → key c x < key c y) → ∃ k, k ≤ s.length ∧ (∀ (j : Nat) (y : Mv), s[j]? = some y → k ≤ j → key c x < key c y) ∧ ∀ j y, s[j]? = some y → j < k → key c y ≤ key c x := by
    intro n
    induction n with
    | zero => exact fun _ h => ⟨0, Nat.zero_le _, h, fun j y _ hj => absurd hj (by omega)⟩
    | succ n ih =>
      intro hn h
      have hget : s[n]? = some (s[n]'(by omega)) := List.getElem?_eq_getElem (by omega)
      by_cases hlt : key c x < key c (s[n]'(by omega))
      · refine ih (by omega) (fun j y hj hnj => ?_)
        by_cases e : j = n
        · subst e; rw [hget] at hj; rw [← Option.some.inj hj]; exact hlt
        · exact h j y hj (by omega)
      · refine ⟨n + 1, hn, h, fun j y hj hjn => ?_⟩
        by_cases e : j = n
        · subst e; rw [hget] at hj; rw [← Option.some.inj hj]; omega
        · have := hs j n y _ (by omega) hj hget
          omega
  exact this s.length (Nat.le_refl _) (fun j y hj h => absurd (List.getElem?_eq_some_iff.1 hj).1 (by omega))
theorem sorted_nil (c : Nat → Int) : Sorted c [] [] := ⟨id, Stab.Prm.refl _ _ _, fun x y _ _ hy => absurd hy (by simp), rfl⟩
/-- What is sorted, by one behind another. -/
theorem sorted_ind {c : Nat → Int} (P : List Mv → List Mv → Prop) (h0 : P [] []) (h1 : ∀ t s x k, k ≤ s.length → Sorted c t s → P t s → (∀ j y, s[j]? = some y → k ≤ j → key c x < key c y) → (∀ j y, s[j]? = some y → j < k → key c y ≤ key c x) → P (t ++ [x]) (s.take k ++ x :: s.drop k)) (hc : PosOk c) :
    ∀ n l, l.length = n → (∀ m ∈ l, MvOk m) → ∀ l', Sorted c l l' → P l l' := by
  intro n
  induction n with
  | zero =>
    intro l hl hm l' h
    have : l = [] := List.length_eq_zero_iff.1 hl
    subst this
    have := List.length_eq_zero_iff.1 ((sorted_len h).trans hl)
    subst this
    exact h0
  | succ n ih =>
    intro l hl hm l' h
    have hne : l ≠ [] := fun e => by rw [e] at hl; cases hl
    have hl2 := List.dropLast_concat_getLast hne
    obtain ⟨t, ht⟩ : ∃ t, l.dropLast = t := ⟨_, rfl⟩
    obtain ⟨x, hx⟩ : ∃ x, l.getLast hne = x := ⟨_, rfl⟩
    rw [ht, hx] at hl2
    clear ht hx
    subst hl2
    have hmt : ∀ m ∈ t, MvOk m := fun m h => hm m (List.mem_append_left _ h)
    have hs := sorted_ex hc hmt
    obtain ⟨s, hse⟩ : ∃ s, (Sort.insertionSort (ltOf (cf c)) (Stab.row (place t) t.length id) 0 t.length).toList = s := ⟨_, rfl⟩
    rw [hse] at hs
    obtain ⟨k, hk, k1, k2⟩ := spot x (sorted_le hs)
    have hy := sorted_snoc k hk hs k1 k2
    rw [sorted_one hc hm h hy]
    exact h1 t s x k hk hs (ih t (by simpa using hl) hmt s hs) k1 k2
theorem sorted_perm {c : Nat → Int} {l l' : List Mv} (hc : PosOk c) (hl : ∀ m ∈ l, MvOk m) (h : Sorted c l l') : l'.Perm l := by
  refine sorted_ind (fun l l' => l'.Perm l) (List.Perm.refl _) (fun t s x k _ _ ih _ _ => ?_) hc _ l rfl hl l' h
  have e : (s.take k ++ x :: s.drop k).Perm (x :: s) := by
    have := @List.perm_middle _ x (s.take k) (s.drop k)
    rwa [List.take_append_drop] at this
  exact e.trans ((ih.cons x).trans (by
    have := @List.perm_middle _ x t []
    simpa using this.symm))
/-- A move that takes nothing and becomes nothing. -/
def still (c : Nat → Int) (m : Mv) : Bool := taken c m == 0 && m.2.2.1 == 0
theorem sorted_still {c : Nat → Int} {l l' : List Mv} (hc : PosOk c) (hl : ∀ m ∈ l, MvOk m) (h : Sorted c l l') : l'.filter (still c) = l.filter (still c) := by
  have key0 : ∀ m, still c m = true → key c m = 0 := fun m hm => by
    unfold still at hm
    simp only [Bool.and_eq_true, beq_iff_eq] at hm
    unfold key
    rw [hm.1, hm.2]; rfl
  have all : ∀ m, MvOk m → key c m ≤ 0 := fun m hm => by
    have h1 := taken_bd hc m
    have h2 := moving_bd hc m hm
    have h3 := hm.2.2.1
    unfold key
    split <;> omega
  refine (sorted_ind (fun l l' => (∀ m ∈ l', MvOk m) → l'.filter (still c) = l.filter (still c)) (fun _ => rfl) (fun t s x k _ _ ih k1 _ => ?_) hc _ l rfl hl l' h) (fun m hm => hl m (sorted_mem h m hm))
  intro hok
  have hs : ∀ m ∈ s, MvOk m := fun m hm => hok m (by
    rw [← List.take_append_drop k s] at hm
    rcases List.mem_append.1 hm with h | h
    · exact List.mem_append_left _ h
    · exact List.mem_append_right _ (List.mem_cons_of_mem _ h))
  have e := ih hs
  rw [List.filter_append, List.filter_append, ← e]
  by_cases hx : still c x = true
  · have hd : (s.drop k).filter (still c) = [] := by
      rw [List.filter_eq_nil_iff]
      intro m hm hst
      obtain ⟨i, hi, e⟩ := List.mem_iff_getElem.1 hm
      have hg : s[k + i]? = some m := by
        rw [← List.getElem?_drop, List.getElem?_eq_getElem hi, e]
      have := k1 (k + i) m hg (by omega)
      rw [key0 x hx, key0 m hst] at this
      omega
    have : s.filter (still c) = (s.take k).filter (still c) := by
      conv => lhs; rw [← List.take_append_drop k s]
      rw [List.filter_append, hd, List.append_nil]
    rw [List.filter_cons_of_pos hx, hd, this, List.filter_cons_of_pos hx]; rfl
  · rw [List.filter_cons_of_neg hx, List.filter_cons_of_neg hx, List.filter_nil, List.append_nil, ← List.filter_append, List.take_append_drop]
/-- What is sorted is sorted again as it was. -/
theorem sorted_self {c : Nat → Int} {l l' : List Mv} (h : Sorted c l l') : Sorted c l' l' := by
  refine ⟨id, Stab.Prm.refl _ _ _, fun x y _ hxy hy => ?_, (row_list l').symm⟩
  have hx' : l'[x]? = some (place l' x) := by unfold place; rw [List.getElem?_eq_getElem (by omega)]; rfl
  have hy' : l'[y]? = some (place l' y) := by unfold place; rw [List.getElem?_eq_getElem hy]; rfl
  have := sorted_le h x y _ _ hxy hx' hy'
  unfold R
  show key c (place l' x) < key c (place l' y) ∨ (key c (place l' x) = key c (place l' y) ∧ x < y)
  omega
theorem first_perm (l : List Mv) (m : Mv) : (first l m).Perm l := by
  unfold first
  split
  · rename_i h; exact (List.perm_cons_erase h).symm
  · exact List.Perm.refl _
end O

end Go.Proofs.Ytdcmjbebkmicaaa
