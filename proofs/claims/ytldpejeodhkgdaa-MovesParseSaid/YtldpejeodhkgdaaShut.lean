/- A flat value (a position) reads alike in every memory. -/
import Derived.Test.YtldpejeodhkgdaaPos
namespace Go.Proofs.Ytldpejeodhkgdaa
open Go.RowKit Go.ChangeShapes Go.WideShapes

theorem mapM_alike {α β : Type} {g h : α → Option β} : ∀ (l : List α), (∀ a ∈ l, g a = h a) → l.mapM g = l.mapM h
  | [], _ => rfl
  | a :: r, k => by rw [List.mapM_cons, List.mapM_cons, k a (List.mem_cons_self ..), mapM_alike r fun b hb => k b (List.mem_cons_of_mem _ hb)]
theorem flatF_each (g : TypeId → Option (List (Option IntKind))) : ∀ (fs : List Field) (off : Nat) (ks : List (Option IntKind)), flatF g fs off = some ks → ∀ f ∈ fs, ∃ l, g f.type = some l
  | [], _, _, _, f, hf => by cases hf
  | f0 :: fs, off, ks, h, f, hf => by
    rw [flatF] at h
    split at h
    · rw [Option.bind_eq_some_iff] at h
      obtain ⟨l, hl, h⟩ := h
      rw [Option.map_eq_some_iff] at h
      obtain ⟨r, hr, _⟩ := h
      rcases List.mem_cons.1 hf with rfl | hf
      · exact ⟨l, hl⟩
      · exact flatF_each g fs _ r hr f hf
    · cases h

section
variable {H : Type} {enc : TypeId × Value → H} {P : Program} {w w' : World} {base base' : Nat} {spare spare' : Nat → Bool} {held held' : Bool}
theorem flat_same : ∀ (n : Nat) (t : TypeId) (ks : List (Option IntKind)), flat P n t = some ks → ∀ (fuel : Nat) (cs : List Value), DataW.trod enc P w base spare held fuel t cs = DataW.trod enc P w' base' spare' held' fuel t cs := by
  intro n
  induction n with
  | zero => intro t ks hf; cases hf
  | succ n ih =>
    intro t ks hf fuel cs
    cases fuel with
    | zero => rfl
    | succ m =>
      unfold flat at hf
      unfold DataW.trod
      split at hf
      · rename_i ht
        rw [ht]
        split <;> simp_all
      · rename_i k ht
        rw [ht]
        split <;> simp_all
      · rename_i fs ht
        rw [Option.bind_eq_some_iff] at hf
        obtain ⟨ks', hf, _⟩ := hf
        rw [ht]
        have e := mapM_alike (g := fun f : Field => DataW.trod enc P w base spare held m f.type ((cs.drop f.offset).take (P.cellsOf f.type))) (h := fun f : Field => DataW.trod enc P w' base' spare' held' m f.type ((cs.drop f.offset).take (P.cellsOf f.type))) fs.toList (fun f hm => by
          obtain ⟨l, hl⟩ := flatF_each _ _ _ _ hf f hm
          exact ih _ _ hl m _)
        simp only [e]
      · rename_i k e ht
        rw [Option.bind_eq_some_iff] at hf
        obtain ⟨l, hf, _⟩ := hf
        rw [ht]
        have e := mapM_alike (g := fun i : Nat => DataW.trod enc P w base spare held m e ((cs.drop (i * P.cellsOf e)).take (P.cellsOf e))) (h := fun i : Nat => DataW.trod enc P w' base' spare' held' m e ((cs.drop (i * P.cellsOf e)).take (P.cellsOf e))) (List.range k) (fun i _ => ih _ _ hf m _)
        simp only [e]
      · cases hf
end

section
variable {H : Type} {enc : TypeId × Value → H} {w w' : World} {base base' : Nat} {spare spare' : Nat → Bool} {held held' : Bool}
theorem shut_pos {v : Value} {d : DataW H} {p : List MemPlace} (h : DataW.Trod enc Try.prog w base spare held 31 v d p) : DataW.Trod enc Try.prog w' base' spare' held' 31 v d p := by
  obtain ⟨fuel, h⟩ := h
  exact ⟨fuel, by rw [← flat_same 5 _ _ Try.posFlat fuel]; exact h⟩
end

end Go.Proofs.Ytldpejeodhkgdaa
