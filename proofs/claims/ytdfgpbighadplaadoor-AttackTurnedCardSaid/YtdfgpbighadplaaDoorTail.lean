/- A region that draws its order, whose operations but the last few read or call quietly (a callee may make memory); the last few wait for all others and for one another: walked once, in the order of the text. No program in sight. -/
import Derived.StillTail
import Derived.Test.YtdfgpbighadplaaDoorMem
namespace Go.Proofs.YtdfgpbighadplaaDoor
open Go.RowKit Go.Sort

section
variable {P : Program} {Q : Exit → Act → World → Prop} {C : World → Prop}

/-- What is asked of the region, closed: edges lead back; guards of the head lie in the head; the head goes in the text's order; the tail is one chain that waits for the head. -/
def tailOk (l : List Oper) (n : Nat) : Bool :=
  Region.lexB .any (l.take n).toArray && decide (n < l.length) && Region.sinkB .any l.toArray n && Region.chainB .any l.toArray n &&
  (List.range n).all (fun i => match l[i]? with | some o => o.after.all (fun e => decide (e.on < i)) && (match o.guard with | none => true | some (j, _) => decide (j < n)) | none => false) &&
  Region.seqB .any l.toArray (l.length - n) n (Array.replicate n true ++ Array.replicate (l.length - n) false)

theorem wpAny_more {ops : Array Oper} : ∀ (f : Nat) (listed : Array Bool) (a : Act) (w : World), wpAny P .any ops Q f listed a w → wpAny P .any ops Q (f + 1) listed a w := by
  intro f
  induction f with
  | zero =>
    intro listed a w h
    exact ⟨fun _ => h.2, fun i hi => by rw [h.1] at hi; cases hi⟩
  | succ f ih =>
    intro listed a w h
    exact ⟨h.1, fun i hi => wpOp_mono (fun a' w' h' => ih _ a' w' h') (h.2 i hi)⟩
theorem wpAny_more' {ops : Array Oper} {f : Nat} (g : Nat) {listed : Array Bool} {a : Act} {w : World} (h : wpAny P .any ops Q f listed a w) : wpAny P .any ops Q (g + f) listed a w := by
  induction g with
  | zero => rwa [Nat.zero_add]
  | succ g ih => rw [Nat.add_right_comm]; exact wpAny_more _ _ _ _ ih

theorem getD_take (listed : Array Bool) (n i : Nat) (d : Bool) (h : i < n) : (listed.take n).getD i d = listed.getD i d := by
  rw [Array.getD_eq_getD_getElem?, Array.getD_eq_getD_getElem?, Array.take, Array.getElem?_extract]
  by_cases hs : i < listed.size
  · rw [if_pos (by omega), Nat.zero_add]
  · rw [if_neg (by omega), Array.getElem?_eq_none (by omega)]
theorem getD_take_out (listed : Array Bool) (n i : Nat) (d : Bool) (h : n ≤ i) : (listed.take n).getD i d = d := by
  rw [Array.getD_eq_getD_getElem?, Array.getElem?_eq_none (by simp; omega)]; rfl
theorem take_set (listed : Array Bool) (n i : Nat) (h : i < n) : (listed.setIfInBounds i true).take n = (listed.take n).setIfInBounds i true := by
  apply Array.ext_getElem?
  intro j
  rw [Array.take, Array.getElem?_extract, Array.getElem?_setIfInBounds, Array.getElem?_setIfInBounds, Array.take, Array.getElem?_extract, Array.size_setIfInBounds, Array.size_extract]
  by_cases hij : i = j
  · subst hij
    rw [if_pos rfl]
    by_cases h1 : i < min n listed.size - 0
    · rw [if_pos h1, if_pos h1, if_pos (by omega), if_pos (by omega)]
    · rw [if_neg h1, if_neg h1]
  · rw [if_neg hij]
    by_cases h1 : j < min n listed.size - 0
    · rw [if_pos h1, if_pos h1, if_neg (by omega)]
    · rw [if_neg h1, if_neg h1]

theorem ready_head {l : List Oper} {n : Nat} {listed : Array Bool} {i : Nat} (hi : i < n) (inv : HeadInv .any l.toArray n listed) :
    i ∈ Region.ready .any (l.take n).toArray (listed.take n) ↔ i ∈ Region.ready .any l.toArray listed := by
  rw [mem_ready, mem_ready]
  have e1 : (l.take n).toArray[i]? = l.toArray[i]? := by simp [hi]
  rw [e1, getD_take _ _ _ _ hi]
  have e2 : ∀ j, (listed.take n).getD j false = listed.getD j false := by
    intro j
    by_cases hj : j < n
    · exact getD_take _ _ _ _ hj
    · rw [getD_take_out _ _ _ _ (by omega)]
      by_cases hs : j < l.toArray.size
      · exact (getD_both (inv.tail j (by omega) hs)).symm
      · rw [Array.getD_eq_getD_getElem?, Array.getElem?_eq_none (by rw [inv.size]; omega)]; rfl
  simp only [e2]

/-- No way is lost: where none of the head is ready, all of the head is listed. -/
theorem head_done {l : List Oper} {n : Nat} {listed : Array Bool} (hn : n < l.length) (hE : (List.range n).all (fun i => match l[i]? with | some o => o.after.all (fun e => decide (e.on < i)) && (match o.guard with | none => true | some (j, _) => decide (j < n)) | none => false) = true)
    (inv : HeadInv .any l.toArray n listed) (h : ∀ i, i < n → i ∉ Region.ready .any l.toArray listed) : ∀ i, i < n → listed.getD i false = true := by
  intro i
  induction i using Nat.strongRecOn with
  | _ i ih =>
    intro hi
    cases hc : listed.getD i false with
    | true => rfl
    | false =>
      exfalso
      refine h i hi (mem_ready.2 ⟨getD_in (by rw [inv.size]; simp; omega) hc, ?_⟩)
      have h0 : l[i]? = some l[i] := List.getElem?_eq_getElem (by omega)
      refine ⟨l[i], by simp, fun e he _ => ?_⟩
      have hA := List.all_eq_true.1 hE i (by simpa using hi)
      rw [h0] at hA
      simp only [Bool.and_eq_true] at hA
      have := Array.all_eq_true'.1 hA.1 e he
      have hlt : e.on < i := by simpa using this
      exact ih e.on hlt (by omega)

theorem listed_canon {l : List Oper} {n : Nat} {listed : Array Bool} (hn : n < l.length) (inv : HeadInv .any l.toArray n listed) (h : ∀ i, i < n → listed.getD i false = true) :
    listed = Array.replicate n true ++ Array.replicate (l.length - n) false := by
  have hsz : listed.size = l.length := by rw [inv.size]; simp
  apply Array.ext
  · simp; omega
  · intro i h1 h2
    have e : listed.getD i false = listed[i] := by simp [Array.getD, h1]
    by_cases hi : i < n
    · have := h i hi
      rw [e] at this
      rw [this, Array.getElem_append_left (by simpa using hi)]
      simp
    · have := getD_both (inv.tail i (by omega) (by simpa [hsz] using h1))
      rw [e] at this
      rw [this, Array.getElem_append_right (by simp; omega)]
      simp

/-- The guards of the head are read in the head alone. -/
theorem quiet_guards {l : List Oper} {n : Nat} (hn : n < l.length) (hE : (List.range n).all (fun i => match l[i]? with | some o => o.after.all (fun e => decide (e.on < i)) && (match o.guard with | none => true | some (j, _) => decide (j < n)) | none => false) = true) {K : Act → Prop} :
    ∀ (k : Nat) (a : Act), k ≤ n → wpQuiet P l.toArray C K ((l.take n).drop k) a → wpQuiet P (l.take n).toArray C K ((l.take n).drop k) a := by
  intro k
  generalize hd : n - k = d
  induction d generalizing k with
  | zero =>
    intro a hk h
    have : (l.take n).drop k = [] := List.drop_eq_nil_of_le (by simp; omega)
    rw [this] at h ⊢
    exact h
  | succ d ih =>
    intro a hk h
    have hkn : k < n := by omega
    have h0 : l[k]? = some l[k] := List.getElem?_eq_getElem (by omega)
    have hcons : (l.take n).drop k = l[k] :: (l.take n).drop (k + 1) := by
      rw [List.drop_eq_getElem_cons (by simp; omega)]
      simp
    rw [hcons] at h ⊢
    have hA := List.all_eq_true.1 hE k (by simpa using hkn)
    rw [h0] at hA
    simp only [Bool.and_eq_true] at hA
    have hw : Region.wanted l[k] (yielded (l.take n).toArray a.tmps) = Region.wanted l[k] (yielded l.toArray a.tmps) := by
      unfold Region.wanted
      split
      · rfl
      · rename_i j want hg
        have hj : j < n := by
          have := hA.2
          rw [hg] at this
          simpa using this
        have : yielded (l.take n).toArray a.tmps j = yielded l.toArray a.tmps j := by
          unfold yielded
          have e : (l.take n).toArray[j]? = l.toArray[j]? := by simp [hj]
          rw [e]
        rw [this]
    unfold wpQuiet at h ⊢
    rw [hw]
    split
    · rename_i hx
      rw [if_pos hx] at h
      exact Oper.quiet_mono (fun a' h' => ih (k + 1) (by omega) a' (by omega) h') h
    · rename_i hx
      rw [if_neg hx] at h
      exact ih (k + 1) (by omega) _ (by omega) h

theorem tail_any {l : List Oper} {n : Nat} (hn : n < l.length) (hs : Region.sinkB .any l.toArray n = true) (hc : Region.chainB .any l.toArray n = true)
    (hE : (List.range n).all (fun i => match l[i]? with | some o => o.after.all (fun e => decide (e.on < i)) && (match o.guard with | none => true | some (j, _) => decide (j < n)) | none => false) = true)
    (hq : Region.seqB .any l.toArray (l.length - n) n (Array.replicate n true ++ Array.replicate (l.length - n) false) = true) :
    ∀ (g : Nat) (listed : Array Bool) (a : Act) (w : World), HeadInv .any l.toArray n listed → C w →
      wpAnyQ P .any (l.take n).toArray C (fun a' => ∀ w', C w' → wpList P l.toArray Q (l.drop n) a' w') g (listed.take n) a →
      wpAny P .any l.toArray Q (g + (l.length - n)) listed a w := by
  -- all of the head is listed: the tail, in the text's order
  have fin : ∀ (g : Nat) (listed : Array Bool) (a : Act) (w : World), HeadInv .any l.toArray n listed → (∀ i, i < n → i ∉ Region.ready .any l.toArray listed) →
      wpList P l.toArray Q (l.drop n) a w → wpAny P .any l.toArray Q (g + (l.length - n)) listed a w := by
    intro g listed a w inv hr h
    have hl := listed_canon hn inv (head_done hn hE inv hr)
    subst hl
    have := wpAny_of_seq (md := .any) (Q' := Q) (l.drop n) n _ a w (fun j => by simp [List.getElem?_drop]) (by rw [List.length_drop]; exact hq) h
    rw [List.length_drop] at this
    exact wpAny_more' g this
  intro g
  induction g with
  | zero =>
    intro listed a w inv hw h
    refine fin 0 listed a w inv (fun i hi hr => ?_) (h.2 w hw)
    rw [← ready_head hi inv, h.1] at hr
    cases hr
  | succ g ih =>
    intro listed a w inv hw h
    by_cases hr : ∀ i, i < n → i ∉ Region.ready .any l.toArray listed
    · refine fin (g + 1) listed a w inv hr (h.1 ?_ w hw)
      apply List.eq_nil_iff_forall_not_mem.2
      intro i hi
      have hin : i < n := by
        obtain ⟨_, o, ho, _⟩ := mem_ready.1 hi
        have := (Array.getElem?_eq_some_iff.1 ho).1
        simp at this
        omega
      exact hr i hin ((ready_head hin inv).1 hi)
    · have ⟨i0, hi0⟩ : ∃ i, i < n ∧ i ∈ Region.ready .any l.toArray listed := by
        apply Classical.byContradiction
        intro hno
        exact hr fun i hi hm => hno ⟨i, hi, hm⟩
      rw [show g + 1 + (l.length - n) = (g + (l.length - n)) + 1 by omega]
      refine ⟨(fun h0 => by rw [h0] at hi0; cases hi0.2), fun i hi => ?_⟩
      have hin : i < n := by
        apply Classical.byContradiction
        intro hge
        have hun : listed.getD i0 true = false := (mem_ready.1 hi0.2).1
        exact tail_waits hs hc (by simpa using hn) inv (n - i0) i0 rfl hi0.1 hun i (by omega) hi
      have h2 := h.2 i ((ready_head hin inv).2 hi)
      have e1 : (l.take n).toArray[i]? = l.toArray[i]? := by simp [hin]
      have h0 : l.toArray[i]? = some l[i] := by simp
      unfold qOp at h2
      rw [e1, h0] at h2
      simp only at h2
      have hA := List.all_eq_true.1 hE i (by simpa using hin)
      rw [show l[i]? = some l[i] from List.getElem?_eq_getElem (by omega)] at hA
      simp only [Bool.and_eq_true] at hA
      have hwt : Region.wanted l[i] (yielded (l.take n).toArray a.tmps) = Region.wanted l[i] (yielded l.toArray a.tmps) := by
        unfold Region.wanted
        split
        · rfl
        · rename_i j want hg
          have hj : j < n := by
            have := hA.2
            rw [hg] at this
            simpa using this
          have : yielded (l.take n).toArray a.tmps j = yielded l.toArray a.tmps j := by
            unfold yielded
            have e : (l.take n).toArray[j]? = l.toArray[j]? := by simp [hj]
            rw [e]
          rw [this]
      have h3 : qOp P l.toArray C i (wpAnyQ P .any (l.take n).toArray C (fun a' => ∀ w', C w' → wpList P l.toArray Q (l.drop n) a' w') g ((listed.take n).setIfInBounds i true)) a := by
        unfold qOp
        rw [h0]
        simp only
        rw [hwt] at h2
        exact h2
      refine wpOp_of_qOp hw (fun a' w' hw' h' => ih (listed.setIfInBounds i true) a' w' (inv.set hi hin) hw' ?_) h3
      rw [take_set _ _ _ hin]
      exact h'

/-- The head walked once, in the order of the text; the tail behind it: whatever order is drawn. -/
theorem region_tail_any {n : Nat} {a : Act} {w : World} {l : List Oper} (hB : tailOk l n = true)
    (h : wpQuiet P l.toArray (fun w' => ∃ p : Regrown, w' = grow (redrawn w p.d) p.os) (fun a' => ∀ w', Below w.heap.size w w' → wpList P l.toArray Q (l.drop n) a' w') (l.take n) a) :
    wpAny P .any l.toArray Q l.toArray.size (Array.replicate l.toArray.size false) a { w with drawn := w.drawn + 1 } := by
  unfold tailOk at hB
  simp only [Bool.and_eq_true, decide_eq_true_eq] at hB
  obtain ⟨⟨⟨⟨⟨hB, hn⟩, hs⟩, hc⟩, hE⟩, hq⟩ := hB
  have e : (fun a' => ∀ w', Below w.heap.size w w' → wpList P l.toArray Q (l.drop n) a' w') = (fun a' => ∀ w', (∃ p : Regrown, w' = grow (redrawn w p.d) p.os) → wpList P l.toArray Q (l.drop n) a' w') := by
    funext a'
    exact propext ⟨fun h w' ⟨p, hp⟩ => h w' (by rw [hp]; exact below_regrown _ _ _), fun h w' hb => h w' (regrown_of_below hb)⟩
  rw [e] at h
  have h1 := quiet_guards (k := 0) hn hE a (Nat.zero_le _) h
  rw [List.drop_zero] at h1
  simp only [Region.lexB, Bool.and_eq_true] at hB
  have hlen : (l.take n).length = n := by simp; omega
  have h2 := wpAnyQ_lex (md := .any) hB.1 (l.take n) 0 (Array.replicate (l.take n).toArray.size false) a (by simp) (by simpa using hB.2) h1
  have inv0 : HeadInv .any l.toArray n (Array.replicate l.toArray.size false) :=
    ⟨by simp, fun j oj _ hl => (by rw [getD_replicate_false] at hl; cases hl), fun t _ ht => getD_in (by simpa using ht) (getD_replicate_false _ _)⟩
  have e3 : (Array.replicate l.toArray.size false).take n = Array.replicate (l.take n).toArray.size false := by
    apply Array.ext
    · simp
    · intro i h1 h2
      simp
  rw [← e3] at h2
  have h4 := tail_any hn hs hc hE hq (l.take n).length (Array.replicate l.toArray.size false) a { w with drawn := w.drawn + 1 } inv0 ⟨⟨w.drawn + 1, #[]⟩, by rw [grow_empty]; rfl⟩ h2
  rw [hlen, show n + (l.length - n) = l.toArray.size by simp; omega] at h4
  exact h4

/-- THE REGION: its head walked once, in the order of the text; its tail behind it. -/
theorem region_tail {id n : Nat} {a : Act} {w : World} {l : List Oper} (hm : P.follows .mixedOrders = true) (hB : tailOk l n = true)
    (h : wpQuiet P l.toArray (fun w' => ∃ p : Regrown, w' = grow (redrawn w p.d) p.os) (fun a' => ∀ w', Below w.heap.size w w' → wpList P l.toArray Q (l.drop n) a' w') (l.take n) a) : (Code.region id l.toArray true).wp P Q a w :=
  wp_region_any hm (region_tail_any hB h)

end

end Go.Proofs.YtdfgpbighadplaaDoor
