/- Rows of moves as the sort sees them. -/
import Derived.Test.YtdcmjbebkmicaaaOrdK
import Derived.Test.YtdcmjbebkmicaaaOrdS
import Derived.Test.YtdcmjbebkmicaaaSortG
namespace Go.Proofs.Ytdcmjbebkmicaaa
open Go.RowKit Go.Sort Go.Lib

namespace M
theorem cells_get (l : List Mv) (j : Nat) (x : Mv) (hx : l[j / 5]? = some x) : (cells l)[j]? = some ((cell x)[j % 5]!) := by
  have h5 : j % 5 < (cell x).length := by have := Nat.mod_lt j (show 5 > 0 by omega); simpa [cell] using this
  have := cells_at l (j / 5) x hx (j % 5) _ (List.getElem?_eq_getElem h5)
  rw [Nat.mul_comm, Nat.div_add_mod] at this
  rw [this, getElem!_pos (cell x) (j % 5) h5]
theorem flat_get (d : Array Mv) (j : Nat) (h : j < d.size * 5) : (cells d.toList)[j]? = some ((flatK cell 5 d)[j]!) := by
  have hj : j / 5 < d.size := by omega
  rw [get_flatK cell 5 d j h, cells_get d.toList j d[j / 5]! (by rw [getElem!_pos d _ hj]; simp [hj])]
section
variable {w : World} {base g n cap : Nat} {T : TypeId} {cur : Array Value} {d : Array Mv}
theorem holds_of (hg : w.heap[g]? = some (.cells cur T (0, 0))) (ht : cur.toList.take (d.size * 5) = cells d.toList) : HoldsK cell 5 w g 0 d := by
  intro j hj
  rw [size_flatK] at hj
  have h1 := flat_get d j hj
  rw [← ht, List.getElem?_take, if_pos hj] at h1
  refine ⟨?_, by simp [World.frozen?, hg]⟩
  rw [Nat.zero_add]
  simp only [World.cell?, hg]
  simpa using h1
theorem heap_sorted (hg : w.heap[g]? = some (.cells cur T (0, 0))) (m : Nat) (os : Array Obj) : (sortWorldK cell 5 w g 0 m d os).heap[g]? = some (.cells (putCells id 0 (flatK cell 5 d) cur) T (0, 0)) := by
  have hlt := (Array.getElem?_eq_some_iff.1 hg).1
  show ((w.heap.modify g (onCells (putCells id 0 (flatK cell 5 d)))) ++ os)[g]? = _
  rw [Array.getElem?_append_left (by simpa using hlt), Array.getElem?_modify, if_pos rfl, hg]
  rfl
theorem below_sorted (hg : base ≤ g) (hl : g < w.heap.size) (m : Nat) (os : Array Obj) : Below base w (sortWorldK cell 5 w g 0 m d os) := by
  refine ⟨rfl, rfl, rfl, ?_, fun k hk => ?_⟩
  · exact size_sortWorldK_c cell 5 w g 0 m d os
  · show ((w.heap.modify g (onCells (putCells id 0 (flatK cell 5 d)))) ++ os)[k]? = _
    rw [Array.getElem?_append_left (by rw [Array.size_modify]; omega), Array.getElem?_modify, if_neg (by omega)]
theorem pos_sorted {p : Nat} {c : Nat → Int} (hp : PosAt w p c) (hne : p ≠ g) (m : Nat) (os : Array Obj) : PosAt (sortWorldK cell 5 w g 0 m d os) p c := by
  refine ⟨?_⟩
  show ((w.heap.modify g (onCells (putCells id 0 (flatK cell 5 d)))) ++ os)[p]? = _
  rw [Array.getElem?_append_left (by simpa using hp.lt), Array.getElem?_modify, if_neg (by omega)]
  exact hp.heap
theorem owns_sorted (hg : w.heap[g]? = some (.cells cur T (0, 0))) (hb : base ≤ g) (hn : n ≤ cap) (hc : cap ≤ maxLen) (hs : cur.size = cap * 5) (hd : d.size = n) (m : Nat) (os : Array Obj) :
    (sortWorldK cell 5 w g 0 m d os).ownsRow base T 5 (.slice (some ⟨g, 0, none⟩) n cap) n (cells d.toList) := by
  refine ⟨by rw [cells_len]; simp [hd], .inr ⟨_, _, _, rfl, hb, heap_sorted hg m os, hn, hc, by simp [putCells, hs], ?_⟩⟩
  apply List.ext_getElem?
  intro j
  rw [List.getElem?_take]
  split
  · rename_i hj
    rw [flat_get d j (by rw [hd]; exact hj)]
    have hj2 : j < cur.size := by rw [hs]; have := Nat.mul_le_mul_right 5 hn; omega
    simp only [putCells, Array.getElem?_toList, Array.getElem?_mapIdx, size_flatK, hd]
    rw [Array.getElem?_eq_getElem hj2]
    simp [hj]
  · rename_i hj
    rw [List.getElem?_eq_none (by rw [cells_len]; simp [hd]; omega)]
end
end M

namespace O
/-- What a move weighs: less comes ahead. -/
def key (c : Nat → Int) (m : Mv) : Int := (if 0 < taken c m then moving c m else 0) - taken c m * 65536 - m.2.2.1 * 256
def MvOk (m : Mv) : Prop := (-128 ≤ m.1 ∧ m.1 ≤ 127) ∧ (-128 ≤ m.2.1 ∧ m.2.1 ≤ 127) ∧ (0 ≤ m.2.2.1 ∧ m.2.2.1 ≤ 255) ∧ (0 ≤ m.2.2.2.1 ∧ m.2.2.2.1 ≤ 255)
theorem moving_bd {c : Nat → Int} (hc : PosOk c) (m : Mv) (hm : MvOk m) : 0 ≤ moving c m ∧ moving c m ≤ 255 := by
  unfold moving
  split
  · exact hm.2.2.2
  · have h := on_bd hc m.1
    have := P.kind_bd (on c m.1) h.1 h.2
    omega
theorem cmp_neg (x y : Int) : cmp x y < 0 ↔ x < y := by unfold cmp; split <;> (try split) <;> omega
theorem cmp_zero (x y : Int) : cmp x y = 0 ↔ x = y := by unfold cmp; split <;> (try split) <;> omega
theorem lt_key {c : Nat → Int} (hc : PosOk c) (a b : Mv) (ha : MvOk a) (hb : MvOk b) : ltOf (cf c) a b = decide (key c a < key c b) := by
  unfold ltOf cf cfV key
  have h1 := taken_bd hc a
  have h2 := taken_bd hc b
  have h3 := moving_bd hc a ha
  have h4 := moving_bd hc b hb
  have h5 := ha.2.2.1
  have h6 := hb.2.2.1
  have c1 := cmp_neg (taken c b) (taken c a)
  have c2 := cmp_zero (taken c b) (taken c a)
  have c3 := cmp_neg b.2.2.1 a.2.2.1
  have c4 := cmp_zero b.2.2.1 a.2.2.1
  have c5 := cmp_neg (moving c a) (moving c b)
  generalize taken c a = ta at *
  generalize taken c b = tb at *
  generalize moving c a = ma at *
  generalize moving c b = mb at *
  generalize a.2.2.1 = pa at *
  generalize b.2.2.1 = pb at *
  generalize cmp tb ta = x at *
  generalize cmp pb pa = y at *
  generalize cmp ma mb = z at *
  rw [decide_eq_decide]
  by_cases hx : x = 0
  · subst hx
    have ht := c2.1 rfl
    subst ht
    simp only [bne_self_eq_false, Bool.false_eq_true, if_false]
    by_cases hy : y = 0
    · subst hy
      have hp := c4.1 rfl
      subst hp
      by_cases ht : 0 < tb
      · simp only [ht, decide_true, Bool.and_true, beq_self_eq_true, if_true]
        rw [c5]; omega
      · simp only [ht, decide_false, Bool.and_false, Bool.false_eq_true, if_false]
        omega
    · have : (y == 0) = false := by simpa using hy
      have hp : pb ≠ pa := fun e => hy (c4.2 e)
      simp only [this, Bool.false_and, Bool.false_eq_true, if_false]
      rw [c3]
      split <;> omega
  · have hx' : (x != 0) = true := by simpa using hx
    have hx2 : (x == 0) = false := by simpa using hx
    have ht : tb ≠ ta := fun e => hx (c2.2 e)
    simp only [hx', if_true, hx2, Bool.false_and, Bool.false_eq_true, if_false]
    rw [c1]
    split <;> split <;> omega
/-- The order of the places they came from. -/
def R (c : Nat → Int) (o : Nat → Mv) (x y : Nat) : Prop := key c (o x) < key c (o y) ∨ (key c (o x) = key c (o y) ∧ x < y)
theorem tells {c : Nat → Int} (hc : PosOk c) (o : Nat → Mv) (ho : ∀ x, MvOk (o x)) : Stab.Tells (R c o) (ltOf (cf c)) o where
  ord := ⟨fun x h => by unfold R at h; omega, fun x y z h k => by unfold R at *; omega, fun x y h => by unfold R; omega⟩
  yes := fun x y h k => by rw [lt_key hc _ _ (ho y) (ho x)] at k; have := of_decide_eq_true k; unfold R; omega
  no := fun x y h k => by rw [lt_key hc _ _ (ho y) (ho x)] at k; have := of_decide_eq_false k; unfold R; omega
/-- The elements by their places. -/
def place (l : List Mv) (x : Nat) : Mv := (l[x]?).getD (0, 0, 0, 0, false)
theorem place_ok {l : List Mv} (hl : ∀ m ∈ l, MvOk m) (x : Nat) : MvOk (place l x) := by
  unfold place
  cases h : l[x]? with
  | none => exact ⟨by decide, by decide, by decide, by decide⟩
  | some m => exact hl m (List.mem_of_getElem? h)
theorem row_list (l : List Mv) : (Stab.row (place l) l.length id).toList = l := by
  apply List.ext_getElem?
  intro i
  rw [Array.getElem?_toList, Stab.row_get?]
  by_cases h : i < l.length
  · rw [if_pos h]; unfold place; show some ((l[i]?).getD _) = _; rw [List.getElem?_eq_getElem h]; rfl
  · rw [if_neg h, List.getElem?_eq_none (by omega)]
/-- Sorted. -/
def Sorted (c : Nat → Int) (l l' : List Mv) : Prop := ∃ g, Stab.Prm 0 l.length id g ∧ Stab.Srt (R c (place l)) g 0 l.length ∧ l' = (Stab.row (place l) l.length g).toList
theorem sorted_len {c : Nat → Int} {l l' : List Mv} (h : Sorted c l l') : l'.length = l.length := by
  obtain ⟨g, _, _, rfl⟩ := h
  rw [Array.length_toList, Stab.row_size]
theorem sorted_one {c : Nat → Int} {l a b : List Mv} (hc : PosOk c) (hl : ∀ m ∈ l, MvOk m) (ha : Sorted c l a) (hb : Sorted c l b) : a = b := by
  obtain ⟨g1, p1, s1, rfl⟩ := ha
  obtain ⟨g2, p2, s2, rfl⟩ := hb
  apply List.ext_getElem?
  intro i
  rw [Array.getElem?_toList, Array.getElem?_toList, Stab.row_get?, Stab.row_get?]
  by_cases h : i < l.length
  · rw [if_pos h, if_pos h, Stab.unique (tells hc _ (place_ok hl)).ord p1 p2 s1 s2 i h]
  · rw [if_neg h, if_neg h]
theorem sorted_ex {c : Nat → Int} {l : List Mv} (hc : PosOk c) (hl : ∀ m ∈ l, MvOk m) : Sorted c l (Sort.insertionSort (ltOf (cf c)) (Stab.row (place l) l.length id) 0 l.length).toList := by
  obtain ⟨g, e, p, s⟩ := Stab.insertion_ok (tells hc _ (place_ok hl)) 0 l.length (Nat.zero_le _) (Nat.le_refl _) id (fun x y _ h _ => h)
  exact ⟨g, p, s, by rw [e]⟩
end O

end Go.Proofs.Ytdcmjbebkmicaaa
