/- A range over a function whose iterator also writes a variable of its own that lies below: what the body keeps must abide that (Wr). No program in sight. -/
import Derived.Test.YtlphjjekamhnlaaDoorBaseB
namespace Go.Proofs.YtlphjjekamhnlaaDoor
open Go.RowKit Go.Sort

section
variable {P : Program} {Q : Exit → Act → World → Prop} {n : Nat}
/-- THE LAW. -/
theorem rangeFunc_tellsW {α : Type} {g : Operand} {ps : Array Tmp} {assign body : Code} {a : Act} {w : World} {gf : Nat} {lb : Array Value}
    (Wr : World → World → Prop) (hWb : ∀ (W W' : World) (k : Nat), Wr W W' → w.heap.size ≤ k → W'.heap[k]? = W.heap[k]?)
    (hg : a.eval g = .func (.func gf) #[] lb) (eg : ∀ args w, (callFunc gf args).run P w = .ok (.enter gf args) w)
    (encs : α → Array Value) (hps : ∀ x, (encs x).size = ps.size) (I : List α → World → Prop) (Ok : List α → α → World → Prop) (Kp : World → World → Prop) (Ax : α → Act → World → Prop) (S : List α → Prop)
    (hIW : ∀ s W W', I s W → Wr W W' → I s W') (hI1 : ∀ s, Grows (I s)) (hI2 : ∀ s, Puts w.heap.size (I s)) (hO2 : ∀ s x, Puts w.heap.size (Ok s x)) (hA2 : ∀ x a', Puts w.heap.size (Ax x a'))
    (hKt : ∀ {A B C : World}, Kp A B → Kp B C → Kp A C) (hKp : ∀ W, Puts w.heap.size (Kp W)) (hKr : ∀ W, Kp W W)
    (hiter : ∀ (l : Nat) (J : List α → World → Prop) (W : World), Below w.heap.size w W → (∀ s, Grows (J s)) → (∀ s W W', J s W → Wr W W' → J s W') → J [] W →
      (∀ pre x W1, J pre W1 → Ok pre x W1 → YieldAt Fence.wide (n - 1 - 1) P l (encs x) W1 fun e W' => e = .returned (.bool true) ∧ J (pre ++ [x]) W' ∧ Kp W1 W') →
      CallsIn Fence.wide (n - 1) P gf (#[.func (.yield l) #[] #[]] ++ lb) W fun e W' => (∃ v, e = .returned v) ∧ ∃ xs, S xs ∧ J xs W')
    (h0 : I [] w)
    (hassign : ∀ (l : Nat) (pre : List α) (x : α) (W : World) (K : Act → World → Prop), I pre W → Ok pre x W → (∀ a' W', KeepsFrom w.heap.size W W' → Kp W W' → I pre W' → Ok pre x W' → Ax x a' W' → K a' W') →
      assign.wpIn (Fence.wide.inRound l) (n - 1 - 1) P (Exit.then K (fun _ _ _ => False)) { tmps := (ps.zip (encs x)).foldl (fun t (p, v) => t.setIfInBounds p v) a.tmps, defers := [] } W)
    (hbody : ∀ (l : Nat) (pre : List α) (x : α) (a' : Act) (W : World), w.heap.size ≤ l → I pre W → Ok pre x W → Ax x a' W →
      body.wpIn (Fence.wide.inRound l) (n - 1 - 1) P (fun e _ W' => e = .normal ∧ KeepsFrom w.heap.size W W' ∧ Kp W W' ∧ I (pre ++ [x]) W') a' W)
    (hdone : ∀ (D : Nat) (xs : List α) (W : World), w.heap.size ≤ D → S xs → I xs W → W.heap[D]? = some (.deferred (some [])) → Q .normal { a with defers := { target := .collected D, args := #[] } :: a.defers } W) :
    (Code.rangeFunc g ps assign body).wpIn Fence.wide n P Q a w := by
  refine wpIn_rangeFunc fun fn hfn => ?_
  generalize hB : w.heap.size = B at *
  -- the record of the loop; where it lies, and the block beneath it
  let rc : LoopState → Loop := fun st => { state := st, pending := none, fn, tmps := a.tmps, params := ps, assign, body, defers := B }
  let Bk : World → Prop := fun W => W.heap[B + 1]? = some (.loop (rc .ready)) ∧ W.heap[B]? = some (.deferred (some []))
  have hBg : Grows Bk := fun W W' h hb => ⟨(hb.block _ (Array.getElem?_eq_some_iff.1 h.1).1).trans h.1, (hb.block _ (Array.getElem?_eq_some_iff.1 h.2).1).trans h.2⟩
  let W1 : World := (w.alloc (.deferred (some []))).alloc (.loop (rc .ready))
  have hW1 : Below B w W1 := by
    have := ((Below.refl w.heap.size w).alloc (Nat.le_refl _) (.deferred (some []))).alloc (by simp) (.loop (rc .ready))
    rwa [hB] at this
  have hbk1 : Bk W1 := by
    constructor
    · have := World.alloc_heap_new (w.alloc (.deferred (some []))) (.loop (rc .ready))
      rwa [World.size_alloc, hB] at this
    · have := (Below.heap_alloc (w.alloc (.deferred (some []))) (.loop (rc .ready)) w.heap.size (by simp)).trans (World.alloc_heap_new w _)
      rwa [hB] at this
  have hI1' : I [] W1 := hI1 _ w W1 h0 (by rw [hB]; exact hW1)
  refine ⟨B + 1, [{ target := .collected B, args := #[] }], W1, { target := .fn (.func gf) lb, args := #[.func (.yield (B + 1)) #[] #[]] }, W1, gf, #[.func (.yield (B + 1)) #[] #[]] ++ lb, W1, ?_, ?_, fun _ _ => trivial, ?_, fun h => by simp [Fence.wide] at h, ?_⟩
  · have := run_enterLoop_outer (P := P) (w := w) fn a.tmps ps assign body
    rw [hB] at this
    exact this
  · simp only [resolve, hg]
    simp [go_sem]
  · simp [invoke, go_sem, eg]
  · refine (hiter (B + 1) (fun s W => I s W ∧ Bk W) W1 hW1 (fun s W W' h hb => ⟨hI1 s W W' h.1 hb, hBg W W' h.2 hb⟩) (fun s W W' h hw => ⟨hIW s W W' h.1 hw, (hWb W W' (B + 1) hw (Nat.le_succ B)).trans h.2.1, (hWb W W' B hw (Nat.le_refl B)).trans h.2.2⟩) ⟨hI1', hbk1⟩ ?_).mono ?_
    · rintro pre x W ⟨hi, hl, hk⟩ hok
      refine ⟨fn, _, assign, body, run_yield (P := P) hl (hps x), roundIn_of_wpIn trivial (hassign (B + 1) pre x W _ hi hok fun a' Wa hkf hkp hia hoa hax => ?_)⟩
      have hla := hkf.same _ _ (Nat.le_succ B) hl rfl
      have hka := hkf.same _ _ (Nat.le_refl B) hk rfl
      refine ⟨_, run_beginRound hla rfl, ?_⟩
      have hlt := (Array.getElem?_eq_some_iff.1 hla).1
      have hp := hI2 pre Wa (B + 1) _ (.loop { rc .ready with state := .busy }) hia (Nat.le_succ B) hla rfl
      have hkp2 := hKp Wa Wa (B + 1) _ (.loop { rc .ready with state := .busy }) (hKr Wa) (Nat.le_succ B) hla rfl
      refine wpIn_mono (hbody (B + 1) pre x a' _ (Nat.le_succ B) hp (hO2 pre x Wa (B + 1) _ _ hoa (Nat.le_succ B) hla rfl) (hA2 x a' Wa (B + 1) _ _ hax (Nat.le_succ B) hla rfl)) ?_
      rintro e a3 W3 ⟨rfl, hk3, hkp3, hi3⟩
      have hl3 := hk3.same (B + 1) (.loop { rc .ready with state := .busy }) (Nat.le_succ B) (World.putObj_heap_same hlt) rfl
      have hd3 := hk3.same B (.deferred (some [])) (Nat.le_refl B) ((World.putObj_heap_other (by omega)).trans hka) rfl
      refine ⟨_, _, run_endRound (P := P) none hl3, rfl, ⟨hI2 _ W3 (B + 1) _ _ hi3 (Nat.le_succ B) hl3 rfl, World.putObj_heap_same (Array.getElem?_eq_some_iff.1 hl3).1, (World.putObj_heap_other (by omega)).trans hd3⟩, ?_⟩
      exact hKt hkp (hKt hkp2 (hKp _ W3 (B + 1) _ _ hkp3 (Nat.le_succ B) hl3 rfl))
    · rintro e W2 ⟨⟨v, rfl⟩, xs, hS, hi, hl, hk⟩
      exact ⟨none, _, run_endLoop (P := P) hl (by simp [rc]), hdone B xs _ (Nat.le_refl B) hS (hI2 _ W2 (B + 1) _ _ hi (Nat.le_succ B) hl rfl) ((World.putObj_heap_other (by omega)).trans hk)⟩
end

end Go.Proofs.YtlphjjekamhnlaaDoor
