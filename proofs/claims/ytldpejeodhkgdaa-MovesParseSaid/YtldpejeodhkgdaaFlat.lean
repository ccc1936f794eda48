/- Values whose cells are all integers and bools (positions, moves, boards): what a reading of such an argument says of its cells. No program in sight. -/
import Derived.WalkKit
import Derived.ProofKit
import Derived.OpenShut
import Derived.Deep.Modes
namespace Go.Proofs.Ytldpejeodhkgdaa
open Go.RowKit Go.ChangeShapes Go.WideShapes

/-- A cell of a kind: none: a bool. -/
def CellIs (k : Option IntKind) (u : Value) : Prop :=
  match k with
  | none => ∃ b, u = .bool b
  | some k => ∃ n, u = .int k n ∧ (Lit.int k n).wf = true

def flatF (g : TypeId → Option (List (Option IntKind))) : List Field → Nat → Option (List (Option IntKind))
  | [], _ => some []
  | f :: fs, off => if f.offset = off then (g f.type).bind fun l => (flatF g fs (off + l.length)).map (l ++ ·) else none

/-- The kinds of the cells of a type, if they are all integers and bools. -/
def flat (P : Program) : Nat → TypeId → Option (List (Option IntKind))
  | 0, _ => none
  | n + 1, t =>
    match P.underlying t with
    | some .bool => some [none]
    | some (.int k) => some [some k]
    | some (.struct fs) => (flatF (flat P n) fs.toList 0).bind fun ks => if P.cellsOf t = ks.length then some ks else none
    | some (.array m e) => (flat P n e).bind fun l => if P.cellsOf e = l.length ∧ P.cellsOf t = m * l.length then some (List.replicate m l).flatten else none
    | _ => none

section
variable {H : Type} {enc : TypeId × Value → H} {P : Program} {w : World} {base : Nat} {spare : Nat → Bool} {held : Bool}

/-- What a reading says. -/
def FlatIs (ks : List (Option IntKind)) (cs : List Value) : Prop := cs.length = ks.length ∧ ∀ (i : Nat) (k : Option IntKind), ks[i]? = some k → ∃ u, cs[i]? = some u ∧ CellIs k u

theorem flatIs_append {ks ls : List (Option IntKind)} {cs ds : List Value} (h : FlatIs ks cs) (k : FlatIs ls ds) : FlatIs (ks ++ ls) (cs ++ ds) := by
  refine ⟨by simp [h.1, k.1], fun i u hi => ?_⟩
  by_cases hlt : i < ks.length
  · rw [List.getElem?_append_left hlt] at hi
    obtain ⟨v, hv, hc⟩ := h.2 i u hi
    exact ⟨v, by rw [List.getElem?_append_left (by rw [h.1]; exact hlt)]; exact hv, hc⟩
  · rw [List.getElem?_append_right (by omega)] at hi
    obtain ⟨v, hv, hc⟩ := k.2 (i - ks.length) u hi
    exact ⟨v, by rw [List.getElem?_append_right (by rw [h.1]; omega), h.1]; exact hv, hc⟩

theorem flatF_open (g : TypeId → Option (List (Option IntKind))) (cs : List Value) (tr : TypeId → List Value → Option (DataW H × List MemPlace))
    (hg : ∀ t ks ds x, g t = some ks → tr t ds = some x → FlatIs ks ds ∧ x.2 = []) :
    ∀ (fs : List Field) (off : Nat) (ks : List (Option IntKind)) (xs : List (DataW H × List MemPlace)), flatF g fs off = some ks → xs.length = fs.length →
      (∀ (i : Nat) (f : Field), fs[i]? = some f → tr f.type ((cs.drop f.offset).take (P.cellsOf f.type)) = xs[i]?) →
      FlatIs ks ((cs.drop off).take ks.length) ∧ xs.flatMap (·.2) = [] := by
  intro fs
  induction fs with
  | nil =>
    intro off ks xs hf hl _
    simp only [flatF, Option.some.injEq] at hf
    subst hf
    have : xs = [] := List.eq_nil_of_length_eq_zero (by simpa using hl)
    subst this
    exact ⟨⟨by simp, fun i k hi => by simp at hi⟩, rfl⟩
  | cons f fs ih =>
    intro off ks xs hf hl hx
    unfold flatF at hf
    split at hf
    · rename_i ho
      rw [Option.bind_eq_some_iff] at hf
      obtain ⟨l, hgl, hf⟩ := hf
      rw [Option.map_eq_some_iff] at hf
      obtain ⟨ks', hf', rfl⟩ := hf
      match xs, hl with
      | x :: xs, hl =>
        have h0 := hx 0 f rfl
        simp only [List.getElem?_cons_zero] at h0
        obtain ⟨hA, hp⟩ := hg _ _ _ _ hgl h0
        obtain ⟨hB, hq⟩ := ih (off + l.length) ks' xs hf' (by simpa using hl) (fun i f' hi => by
          have := hx (i + 1) f' (by simpa using hi)
          simpa using this)
        refine ⟨?_, by simp [hp, hq]⟩
        have hlen : ((cs.drop f.offset).take (P.cellsOf f.type)).length = l.length := hA.1
        have e1 : (cs.drop f.offset).take (P.cellsOf f.type) = (cs.drop off).take l.length := by
          rw [← ho]
          rw [List.length_take] at hlen
          by_cases hc : P.cellsOf f.type ≤ (cs.drop f.offset).length
          · rw [← hlen, Nat.min_eq_left hc]
          · rw [List.take_of_length_le (by omega), ← hlen, Nat.min_eq_right (by omega), List.take_length]
        rw [e1] at hA
        have e2 : (cs.drop off).take (l ++ ks').length = (cs.drop off).take l.length ++ (cs.drop (off + l.length)).take ks'.length := by
          rw [List.length_append, List.take_add, List.drop_drop]
        rw [e2]
        exact flatIs_append hA hB
    · cases hf

theorem flatR_open (l : List (Option IntKind)) (c : Nat) (hc : c = l.length) (cs : List Value) (tr : List Value → Option (DataW H × List MemPlace))
    (hg : ∀ ds x, tr ds = some x → FlatIs l ds ∧ x.2 = []) :
    ∀ (m off : Nat) (xs : List (DataW H × List MemPlace)), xs.length = m →
      (∀ i, i < m → tr ((cs.drop ((off + i) * c)).take c) = xs[i]?) →
      FlatIs (List.replicate m l).flatten ((cs.drop (off * c)).take (m * l.length)) ∧ xs.flatMap (·.2) = [] := by
  intro m
  induction m with
  | zero =>
    intro off xs hl _
    have : xs = [] := List.eq_nil_of_length_eq_zero (by simpa using hl)
    subst this
    exact ⟨⟨by simp, fun i k hi => by simp at hi⟩, rfl⟩
  | succ m ih =>
    intro off xs hl hx
    match xs, hl with
    | x :: xs, hl =>
      have h0 := hx 0 (by omega)
      simp only [List.getElem?_cons_zero, Nat.add_zero] at h0
      obtain ⟨hA, hp⟩ := hg _ _ h0
      obtain ⟨hB, hq⟩ := ih (off + 1) xs (by simpa using hl) (fun i hi => by
        have := hx (i + 1) (by omega)
        simp only [List.getElem?_cons_succ] at this
        rw [← this, show off + 1 + i = off + (i + 1) by omega])
      refine ⟨?_, by simp [hp, hq]⟩
      have e2 : (cs.drop (off * c)).take ((m + 1) * l.length) = (cs.drop (off * c)).take c ++ (cs.drop ((off + 1) * c)).take (m * l.length) := by
        rw [Nat.add_mul, Nat.one_mul, Nat.add_comm (m * l.length), List.take_add, List.drop_drop, ← hc, Nat.add_mul, Nat.one_mul]
      rw [e2, List.replicate_succ, List.flatten_cons]
      exact flatIs_append hA hB

theorem flat_open : ∀ (n : Nat) (t : TypeId) (ks : List (Option IntKind)) (fuel : Nat) (cs : List Value) (x : DataW H × List MemPlace),
    flat P n t = some ks → DataW.trod enc P w base spare held fuel t cs = some x → FlatIs ks cs ∧ x.2 = [] := by
  intro n
  induction n with
  | zero => intro t ks fuel cs x hf _; cases hf
  | succ n ih =>
    intro t ks fuel cs x hf hx
    unfold flat at hf
    split at hf
    · rename_i ht
      cases hf
      cases fuel with
      | zero => simp [DataW.trod] at hx
      | succ m =>
        unfold DataW.trod at hx
        rw [ht] at hx
        split at hx <;> simp_all
        subst hx
        exact ⟨⟨rfl, fun i k hi => by
          match i, hi with
          | 0, hi => simp at hi; subst hi; exact ⟨_, rfl, _, rfl⟩⟩, rfl⟩
    · rename_i k ht
      cases hf
      obtain ⟨a, h1, h2, h3⟩ : ∃ a, cs = [.int k a] ∧ x.2 = [] ∧ (Lit.int k a).wf = true := by
        cases fuel with
        | zero => simp [DataW.trod] at hx
        | succ m =>
          unfold DataW.trod at hx
          rw [ht] at hx
          split at hx <;> simp_all
          obtain ⟨⟨rfl, h⟩, rfl⟩ := hx
          simp_all
      subst h1
      exact ⟨⟨rfl, fun i k' hi => by
        match i, hi with
        | 0, hi => simp at hi; subst hi; exact ⟨_, rfl, _, rfl, h3⟩⟩, h2⟩
    · rename_i fs ht
      obtain ⟨xs, m, rfl, rfl, hl, hxl, hF⟩ := DataW.trod_struct ht hx
      rw [Option.bind_eq_some_iff] at hf
      obtain ⟨ks', hf, hk⟩ := hf
      split at hk
      · rename_i hc
        cases hk
        obtain ⟨hA, hp⟩ := flatF_open (P := P) (flat P n) cs (DataW.trod enc P w base spare held m) (fun t ks ds x h1 h2 => ih t ks m ds x h1 h2) fs.toList 0 ks xs hf (by simpa using hxl) (fun i f hi => hF i f (by simpa using hi))
        rw [List.drop_zero, List.take_of_length_le (by omega)] at hA
        exact ⟨hA, hp⟩
      · cases hk
    · rename_i m e ht
      obtain ⟨xs, q, rfl, rfl, hl, hxl, hF⟩ := DataW.trod_array ht hx
      rw [Option.bind_eq_some_iff] at hf
      obtain ⟨l, hf, hk⟩ := hf
      split at hk
      · rename_i hc
        cases hk
        obtain ⟨hA, hp⟩ := flatR_open l (P.cellsOf e) hc.1 cs (DataW.trod enc P w base spare held q e) (fun ds x h => ih e l q ds x hf h) m 0 xs hxl (fun i hi => by rw [Nat.zero_add]; exact hF i hi)
        rw [Nat.zero_mul, List.drop_zero, List.take_of_length_le (by omega)] at hA
        exact ⟨hA, hp⟩
      · cases hk
    · cases hf

/-- A struct or an array, by value, whose cells are integers and bools. -/
theorem flat_arg {t : TypeId} {v : Value} {d : DataW H} {p : List MemPlace} {n : Nat} {ks : List (Option IntKind)} (hf : flat P n t = some ks) (hs : ∃ cs, v = .agg cs) (h : DataW.Trod enc P w base spare held t v d p) :
    ∃ cs : Array Value, v = .agg cs ∧ p = [] ∧ FlatIs ks cs.toList := by
  obtain ⟨cs, rfl⟩ := hs
  obtain ⟨fuel, hf'⟩ := h
  obtain ⟨h1, h2⟩ := flat_open n t ks fuel _ _ hf hf'
  exact ⟨cs, rfl, h2, h1⟩
end

end Go.Proofs.Ytldpejeodhkgdaa
